/- This file holds the texts TrY, TrZ, a section each. No conditions beyond those in the theorems. -/
import Derived.Test.YthlnlcijnoadcaaGreatDoorGTrW
noncomputable section
open Go.Proofs.Tryz
open Go.IntKind (i64 u8 u64 u32)
set_option linter.all false
set_option maxRecDepth 100000
section
namespace Go.Proofs.YthlnlcijnoadcaaGreatDoor.Tr
open Go Go.Sy
def bS (k r:Nat) (b:Bool):St:=⟨slotsOf k [(r,.bool b)],[],true⟩
def O8:Code:=aP f56
def EH (a b:aj) (i:Int):St:=⟨slotsOf 66 [(2,.ptr 0 0 0),(3,.ptr 1 0 0),(5,.int .i64 i)],[.b a.cells,.b b.cells],true⟩
theorem aer (a b:aj):(aG prog (mO [(10,true)]) 60 f56 [.agg a.cells,.agg b.cells] []).map (λx=>(x.1,x.2.2))=some (.bool false,aa true !a.used==b.used):=by kernel_rfl
theorem aes (a b:aj):(aG prog (mO [(10,false),(16,true)]) 60 f56 [.agg a.cells,.agg b.cells] []).map (λx=>(x.1,x.2.2))=some (.bool false,aa (aa true !!a.used==b.used) (a.name != b.name)):=by kernel_rfl
theorem aet (a b:aj):(aG prog (mO [(10,false),(16,false),(23,true)]) 60 f56 [.agg a.cells,.agg b.cells] []).map (λx=>(x.1,x.2.2))=some (.bool false,aa (aa (aa (aa true !!a.used==b.used) !a.name != b.name) (aa (decide (a.key.length=32)) (decide (b.key.length=32)))) !decide (a.key=b.key)):=by kernel_rfl
theorem aeu (a b:aj):(aG prog (mO [(10,false),(16,false),(23,false),(30,true)]) 60 f56 [.agg a.cells,.agg b.cells] []).map (λx=>(x.1,x.2.2))=some (.bool false,aa (aa (aa (aa (aa (aa true !!a.used==b.used) !a.name != b.name) (aa (decide (a.key.length=32)) (decide (b.key.length=32)))) !!decide (a.key=b.key)) (aa (decide (a.sign.length=32)) (decide (b.sign.length=32)))) !decide (a.sign=b.sign)):=by kernel_rfl
theorem aev (a b:aj):(aG prog (mO [(10,false),(16,false),(23,false),(30,false),(37,true)]) 60 f56 [.agg a.cells,.agg b.cells] []).map (λx=>(x.1,x.2.2))=some (.bool false,aa (aa (aa (aa (aa (aa (aa (aa true !!a.used==b.used) !a.name != b.name) (aa (decide (a.key.length=32)) (decide (b.key.length=32)))) !!decide (a.key=b.key)) (aa (decide (a.sign.length=32)) (decide (b.sign.length=32)))) !!decide (a.sign=b.sign)) (aa (decide (a.par.length=32)) (decide (b.par.length=32)))) !decide (a.par=b.par)):=by kernel_rfl
theorem aew (a b:aj):(aG prog (mO [(10,false),(16,false),(23,false),(30,false),(37,false),(46,true)]) 60 f56 [.agg a.cells,.agg b.cells] []).map (λx=>(x.1,x.2.2))=some (.bool false,aa (aa (aa (aa (aa (aa (aa (aa (aa true !!a.used==b.used) !a.name != b.name) (aa (decide (a.key.length=32)) (decide (b.key.length=32)))) !!decide (a.key=b.key)) (aa (decide (a.sign.length=32)) (decide (b.sign.length=32)))) !!decide (a.sign=b.sign)) (aa (decide (a.par.length=32)) (decide (b.par.length=32)))) !!decide (a.par=b.par)) (((a.un.length:Nat):Int) != ((b.un.length:Nat):Int))):=by kernel_rfl
theorem M1 (a b:aj):aA (ah [2,3,5] 2 ((aE prog (mO [(10,false),(16,false),(23,false),(30,false),(37,false),(46,false)]) 60 0 4 (atoms O8) ⟨aD f56.ntmps [.agg a.cells,.agg b.cells],[],true⟩).map λs=>(Exit.normal,s)))=some (.normal,(EH a b 0).t,(EH a b 0).h):=by kernel_rfl
theorem I8 (a b:aj):aZ (ah [2,3,5] 2 ((aE prog (mO [(10,false),(16,false),(23,false),(30,false),(37,false),(46,false)]) 60 0 4 (atoms O8) ⟨aD f56.ntmps [.agg a.cells,.agg b.cells],[],true⟩).map λs=>(Exit.normal,s)))=(aa (aa (aa (aa (aa (aa (aa (aa (aa true !!a.used==b.used) !a.name != b.name) (aa (decide (a.key.length=32)) (decide (b.key.length=32)))) !!decide (a.key=b.key)) (aa (decide (a.sign.length=32)) (decide (b.sign.length=32)))) !!decide (a.sign=b.sign)) (aa (decide (a.par.length=32)) (decide (b.par.length=32)))) !!decide (a.par=b.par)) !((a.un.length:Nat):Int) != ((b.un.length:Nat):Int)):=by kernel_rfl
theorem YT (a b:aj) (i:Int):aA (ah [2,3,5] 2 (exec prog (mO [(52,true),(65,false)]) 60 0 (inner (inner (au 4 O8))) (EH a b i)))=some (.normal,(EH a b (i64.wrap (i+1))).t,(EH a b i).h):=by kernel_rfl
theorem SO (a b:aj) (i:Int):aZ (ah [2,3,5] 2 (exec prog (mO [(52,true),(65,false)]) 60 0 (inner (inner (au 4 O8))) (EH a b i)))=(aa (aa (aa (aa (aa (aa true (decide (i<((a.un.length:Nat):Int)))) (aX i a.un.length)) (decide (i.toNat<a.un.length))) (aX i b.un.length)) (decide (i.toNat<b.un.length))) !a.un.getD i.toNat 0 != b.un.getD i.toNat 0):=by kernel_rfl
theorem YU (a b:aj) (i:Int):aA (ah [4] 0 (exec prog (mO [(52,true),(65,true)]) 60 0 (inner (inner (au 4 O8))) (EH a b i)))=some (.ret,(bS 66 4 false).t,[]):=by kernel_rfl
theorem SP (a b:aj) (i:Int):aZ (ah [4] 0 (exec prog (mO [(52,true),(65,true)]) 60 0 (inner (inner (au 4 O8))) (EH a b i)))=(aa (aa (aa (aa (aa (aa true (decide (i<((a.un.length:Nat):Int)))) (aX i a.un.length)) (decide (i.toNat<a.un.length))) (aX i b.un.length)) (decide (i.toNat<b.un.length))) (a.un.getD i.toNat 0 != b.un.getD i.toNat 0)):=by kernel_rfl
theorem SQ (a b:aj) (i:Int):aA (ah [] 0 (exec prog (mO [(52,false)]) 60 0 (inner (inner (au 4 O8))) (EH a b i)))=some (.exit 0,slotsOf 66 [],[]):=by kernel_rfl
theorem M3 (a b:aj) (i:Int):aZ (ah [] 0 (exec prog (mO [(52,false)]) 60 0 (inner (inner (au 4 O8))) (EH a b i)))=(aa true !decide (i<((a.un.length:Nat):Int))):=by kernel_rfl
def iS (k r:Nat) (b:Int):St:=⟨slotsOf k [(r,.int .i64 b)],[],true⟩
end Go.Proofs.YthlnlcijnoadcaaGreatDoor.Tr
end
section
namespace Go.Proofs.YthlnlcijnoadcaaGreatDoor.Tr
open Go Go.Sy
section
variable {N M:Nat} {t u:Nat->aj}
def Cd (N:Nat) (t:Nat->aj):Prop:=∀i,i<N->jH (t i).key (t i).sign (t i).par (t i).un=true
def uO (a b:aj):Bool:=kq a.used b.used a.name b.name a.key a.sign a.par a.un b.key b.sign b.par b.un
def tT (N M:Nat) (t u:Nat->aj):Bool:=!((N:Int) != (M:Int))&&bP (λi=>uO (t i) (u i)) N (λ_=>false) true
end
section
variable {a b:aj}
def U1 (a b:List Int) (i:Nat):Bool:=!(a.getD i 0 != b.getD i 0)
theorem M4:∀{a b:List Int},a.length=b.length->bP (U1 a b) a.length (λ_=>false) true=decide (a=b):=by
 intro a b h
 unfold bP
 cases hq:b6 (U1 a b) a.length with
 |none=>
  have ha:=cS hq
  refine (Me ?_).symm
  apply List.ext_getElem h
  intro i h1 h2
  have:=ha i h1
  unfold U1 at this
  simpa [List.getD,aai h1,aai h2] using this
 |some j=>
  obtain ⟨h1,h2,_⟩:=cX hq
  refine (aam λq=>?_).symm
  subst q
  unfold U1 at h2
  simp at h2
theorem zQ (ha:jH a.key a.sign a.par a.un=true) (hb:jH b.key b.sign b.par b.un=true):ai prog 56 [.agg a.cells,.agg b.cells] [] (.bool (uO a b)) []:=by
 obtain ⟨k1,k2,k3,k4⟩:=kB.1 ha
 obtain ⟨m1,m2,m3,m4⟩:=kB.1 hb
 unfold uO kq
 cases h1:(a.used==b.used) with
 |false=>exact aI (cZ _) 60 func56 (aer a b) (by rw [h1];rfl) rfl
 |true=>
 cases h2:(a.name==b.name) with
 |false=>exact aI (cZ _) 60 func56 (aes a b) (by rw [h1,bne,h2];rfl) rfl
 |true=>
 cases h3:decide (a.key=b.key) with
 |false=>exact aI (cZ _) 60 func56 (aet a b) (by rw [h1,bne,h2,h3,Me k1,Me m1];rfl) rfl
 |true=>
 cases h4:decide (a.sign=b.sign) with
 |false=>exact aI (cZ _) 60 func56 (aeu a b) (by rw [h1,bne,h2,h3,h4,Me k1,Me m1,Me k2,Me m2];rfl) rfl
 |true=>
 cases h5:decide (a.par=b.par) with
 |false=>exact aI (cZ _) 60 func56 (aev a b) (by rw [h1,bne,h2,h3,h4,h5,Me k1,Me m1,Me k2,Me m2,Me k3,Me m3];rfl) rfl
 |true=>
 cases h6:((a.un.length:Int) != (b.un.length:Int)) with
 |true=>
  have:decide (a.un=b.un)=false:=aam λq=>by rw [q] at h6;simp at h6
  rw [this]
  exact aI (cZ _) 60 func56 (aew a b) (by rw [h1,bne,h2,h3,h4,h5,h6,Me k1,Me m1,Me k2,Me m2,Me k3,Me m3];rfl) rfl
 |false=>
  have hl:a.un.length=b.un.length:=by
   have:((a.un.length:Int)==(b.un.length:Int))=true:=by simpa [bne] using h6
   have:=eq_of_beq this
   omega
  have key:=ai.scan (P:=prog) (args:=[.agg a.cells,.agg b.cells]) (h:=[]) (h':=[]) func56 rfl 4 0 (λj:Nat=>EH a b ((j:Nat):Int)) (U1 a.un b.un) a.un.length
   (λx s' g=>aV.bk (cZ [(10,false),(16,false),(23,false),(30,false),(37,false),(46,false)]) 60 4 _ 2 (by simp) (s1:=EH a b ((0:Nat):Int)) _ (M1 a b) (I8 a b) (by rw [h1,bne,h2,h3,h4,h5,h6,Me k1,Me m1,Me k2,Me m2,Me k3,Me m3];rfl) (by decide) rfl g) (by decide) (by kernel_rfl)
   (λj hj hb _=>?_) (λi=>bS 66 4 false) (λi=>[.bool false]) (λj hj hb _=>⟨?_,rfl,rfl⟩) (sE:=⟨slotsOf 66 [],[],true⟩) (uM:=bS 66 4 true) (vE:=[.bool true]) (xE:=.ret) (λ_=>?_) (λ_=>⟨?_,.inl rfl,rfl,rfl⟩)
  ·rw [bX (g:=SV.bool) (vF:=λ_:Nat=>false) (vE:=true),M4 hl] at key
   exact key
  ·have e:=YT a b j
   rw [cq (by omega)] at e
   exact Tr.aR (cZ [(52,true),(65,false)]) 60 _ 2 (aap _) (s':=EH a b ((j+1:Nat):Int)) _ e (SO a b j) (by
    have hj2:j<b.un.length:=by omega
    rw [aaa,fo hj,bf hj,Me hj,bf hj2,Me hj2,show (!(a.un.getD j 0 != b.un.getD j 0))=true from hb];rfl)
  ·have hj2:j<b.un.length:=by omega
   have hb':(a.un.getD j 0 != b.un.getD j 0)=true:=by
    unfold U1 at hb
    simpa using hb
   exact Tr.aR (cZ [(52,true),(65,true)]) 60 _ 0 (aap _) (s':=bS 66 4 false) _ (YU a b j) (SP a b j) (by
    rw [aaa,fo hj,bf hj,Me hj,bf hj2,Me hj2,hb'];rfl)
  ·exact Tr.aR (cZ [(52,false)]) 60 _ 0 (aaf _) (s':=⟨slotsOf 66 [],[],true⟩) _ (SQ a b _) (M3 a b _) (by rw [fA (aaf _)];rfl)
  ·exact aV.rest (cZ []) 60 (by kernel_rfl) rfl
end
section
variable {N:Nat} {t:Nat->aj} {nm:Int}
end
end Go.Proofs.YthlnlcijnoadcaaGreatDoor.Tr
end
