/- This file holds the texts TrY, TrZ, a section each. No conditions beyond those in the theorems. -/
import Derived.Test.YthlnlcijnoadcaaGreatDoorFTrW
set_option linter.all false
set_option maxRecDepth 100000
section
namespace Go.Proofs.YthlnlcijnoadcaaGreatDoor.Tr
open Go Go.Sy
noncomputable def bS (k r:Nat) (b:Bool):St:=⟨slotsOf k [(r,.bool b)],[],true⟩
noncomputable def snB:Code:=bodyOf Tryz.f56
noncomputable def snS (a b:Nod) (i:Int):St:=⟨slotsOf 66 [(2,.ptr 0 0 0),(3,.ptr 1 0 0),(5,.int .i64 i)],[.b a.cells,.b b.cells],true⟩
theorem sn_0 (a b:Nod):(callS Tryz.prog (usC [(10,true)]) 60 Tryz.f56 [.agg a.cells,.agg b.cells] []).map (fun x=>(x.1,x.2.2))=some (.bool false,andT true !a.used==b.used):=by kernel_rfl
theorem sn_1 (a b:Nod):(callS Tryz.prog (usC [(10,false),(16,true)]) 60 Tryz.f56 [.agg a.cells,.agg b.cells] []).map (fun x=>(x.1,x.2.2))=some (.bool false,andT (andT true !!a.used==b.used) (a.name != b.name)):=by kernel_rfl
theorem sn_2 (a b:Nod):(callS Tryz.prog (usC [(10,false),(16,false),(23,true)]) 60 Tryz.f56 [.agg a.cells,.agg b.cells] []).map (fun x=>(x.1,x.2.2))=some (.bool false,andT (andT (andT (andT true !!a.used==b.used) !a.name != b.name) (andT (decide (a.key.length=32)) (decide (b.key.length=32)))) !decide (a.key=b.key)):=by kernel_rfl
theorem sn_3 (a b:Nod):(callS Tryz.prog (usC [(10,false),(16,false),(23,false),(30,true)]) 60 Tryz.f56 [.agg a.cells,.agg b.cells] []).map (fun x=>(x.1,x.2.2))=some (.bool false,andT (andT (andT (andT (andT (andT true !!a.used==b.used) !a.name != b.name) (andT (decide (a.key.length=32)) (decide (b.key.length=32)))) !!decide (a.key=b.key)) (andT (decide (a.sign.length=32)) (decide (b.sign.length=32)))) !decide (a.sign=b.sign)):=by kernel_rfl
theorem sn_4 (a b:Nod):(callS Tryz.prog (usC [(10,false),(16,false),(23,false),(30,false),(37,true)]) 60 Tryz.f56 [.agg a.cells,.agg b.cells] []).map (fun x=>(x.1,x.2.2))=some (.bool false,andT (andT (andT (andT (andT (andT (andT (andT true !!a.used==b.used) !a.name != b.name) (andT (decide (a.key.length=32)) (decide (b.key.length=32)))) !!decide (a.key=b.key)) (andT (decide (a.sign.length=32)) (decide (b.sign.length=32)))) !!decide (a.sign=b.sign)) (andT (decide (a.par.length=32)) (decide (b.par.length=32)))) !decide (a.par=b.par)):=by kernel_rfl
theorem sn_5 (a b:Nod):(callS Tryz.prog (usC [(10,false),(16,false),(23,false),(30,false),(37,false),(46,true)]) 60 Tryz.f56 [.agg a.cells,.agg b.cells] []).map (fun x=>(x.1,x.2.2))=some (.bool false,andT (andT (andT (andT (andT (andT (andT (andT (andT true !!a.used==b.used) !a.name != b.name) (andT (decide (a.key.length=32)) (decide (b.key.length=32)))) !!decide (a.key=b.key)) (andT (decide (a.sign.length=32)) (decide (b.sign.length=32)))) !!decide (a.sign=b.sign)) (andT (decide (a.par.length=32)) (decide (b.par.length=32)))) !!decide (a.par=b.par)) (((a.un.length:Nat):Int) != ((b.un.length:Nat):Int))):=by kernel_rfl
theorem sn_head (a b:Nod):resX (cutR [2,3,5] 2 ((execL Tryz.prog (usC [(10,false),(16,false),(23,false),(30,false),(37,false),(46,false)]) 60 0 4 (atoms snB) ⟨slots0 Tryz.f56.ntmps [.agg a.cells,.agg b.cells],[],true⟩).map fun s=>(Exit.normal,s)))=some (.normal,(snS a b 0).t,(snS a b 0).h):=by kernel_rfl
theorem sn_head' (a b:Nod):obX (cutR [2,3,5] 2 ((execL Tryz.prog (usC [(10,false),(16,false),(23,false),(30,false),(37,false),(46,false)]) 60 0 4 (atoms snB) ⟨slots0 Tryz.f56.ntmps [.agg a.cells,.agg b.cells],[],true⟩).map fun s=>(Exit.normal,s)))=(andT (andT (andT (andT (andT (andT (andT (andT (andT true !!a.used==b.used) !a.name != b.name) (andT (decide (a.key.length=32)) (decide (b.key.length=32)))) !!decide (a.key=b.key)) (andT (decide (a.sign.length=32)) (decide (b.sign.length=32)))) !!decide (a.sign=b.sign)) (andT (decide (a.par.length=32)) (decide (b.par.length=32)))) !!decide (a.par=b.par)) !((a.un.length:Nat):Int) != ((b.un.length:Nat):Int)):=by kernel_rfl
theorem sn_go (a b:Nod) (i:Int):resX (cutR [2,3,5] 2 (exec Tryz.prog (usC [(52,true),(65,false)]) 60 0 (inner (inner (nthC 4 snB))) (snS a b i)))=some (.normal,(snS a b (IntKind.i64.wrap (i+1))).t,(snS a b i).h):=by kernel_rfl
theorem sn_go' (a b:Nod) (i:Int):obX (cutR [2,3,5] 2 (exec Tryz.prog (usC [(52,true),(65,false)]) 60 0 (inner (inner (nthC 4 snB))) (snS a b i)))=(andT (andT (andT (andT (andT (andT true (decide (i<((a.un.length:Nat):Int)))) (inB i a.un.length)) (decide (i.toNat<a.un.length))) (inB i b.un.length)) (decide (i.toNat<b.un.length))) !a.un.getD i.toNat 0 != b.un.getD i.toNat 0):=by kernel_rfl
theorem sn_no (a b:Nod) (i:Int):resX (cutR [4] 0 (exec Tryz.prog (usC [(52,true),(65,true)]) 60 0 (inner (inner (nthC 4 snB))) (snS a b i)))=some (.ret,(bS 66 4 false).t,[]):=by kernel_rfl
theorem sn_no' (a b:Nod) (i:Int):obX (cutR [4] 0 (exec Tryz.prog (usC [(52,true),(65,true)]) 60 0 (inner (inner (nthC 4 snB))) (snS a b i)))=(andT (andT (andT (andT (andT (andT true (decide (i<((a.un.length:Nat):Int)))) (inB i a.un.length)) (decide (i.toNat<a.un.length))) (inB i b.un.length)) (decide (i.toNat<b.un.length))) (a.un.getD i.toNat 0 != b.un.getD i.toNat 0)):=by kernel_rfl
theorem sn_end (a b:Nod) (i:Int):resX (cutR [] 0 (exec Tryz.prog (usC [(52,false)]) 60 0 (inner (inner (nthC 4 snB))) (snS a b i)))=some (.exit 0,slotsOf 66 [],[]):=by kernel_rfl
theorem sn_end' (a b:Nod) (i:Int):obX (cutR [] 0 (exec Tryz.prog (usC [(52,false)]) 60 0 (inner (inner (nthC 4 snB))) (snS a b i)))=(andT true !decide (i<((a.un.length:Nat):Int))):=by kernel_rfl
noncomputable def iS (k r:Nat) (b:Int):St:=⟨slotsOf k [(r,.int .i64 b)],[],true⟩
end Go.Proofs.YthlnlcijnoadcaaGreatDoor.Tr
end
section
namespace Go.Proofs.YthlnlcijnoadcaaGreatDoor.Tr
open Go Go.Sy
section
variable {N M:Nat} {t u:Nat→Nod}
def PARTS (N:Nat) (t:Nat→Nod):Prop:=∀i,i<N→lensB (t i).key (t i).sign (t i).par (t i).un=true
def nsB (a b:Nod):Bool:=sameB a.used b.used a.name b.name a.key a.sign a.par a.un b.key b.sign b.par b.un
def treeB (N M:Nat) (t u:Nat→Nod):Bool:=!((N:Int) != (M:Int))&&scanV (fun i=>nsB (t i) (u i)) N (fun _=>false) true
end
section
variable {a b:Nod}
def unJ (a b:List Int) (i:Nat):Bool:=!(a.getD i 0 != b.getD i 0)
theorem unJ_all:∀{a b:List Int},a.length=b.length→scanV (unJ a b) a.length (fun _=>false) true=decide (a=b):=by
 intro a b h
 unfold scanV
 cases hq:firstN (unJ a b) a.length with
 |none=>
  have ha:=firstN_none hq
  refine (decide_eq_true ?_).symm
  apply List.ext_getElem h
  intro i h1 h2
  have:=ha i h1
  unfold unJ at this
  simpa [List.getD,List.getElem?_eq_getElem h1,List.getElem?_eq_getElem h2] using this
 |some j=>
  obtain ⟨h1,h2,_⟩:=find_range hq
  refine (decide_eq_false fun q=>?_).symm
  subst q
  unfold unJ at h2
  simp at h2
theorem sameNode_fn (ha:lensB a.key a.sign a.par a.un=true) (hb:lensB b.key b.sign b.par b.un=true):FnTr Tryz.prog 56 [.agg a.cells,.agg b.cells] [] (.bool (nsB a b)) []:=by
 obtain ⟨k1,k2,k3,k4⟩:=lensB_iff.1 ha
 obtain ⟨m1,m2,m3,m4⟩:=lensB_iff.1 hb
 unfold nsB sameB
 cases h1:(a.used==b.used) with
 |false=>exact call0 (usC_ok _) 60 Tryz.func56 (sn_0 a b) (by rw [h1];rfl) rfl
 |true=>
 cases h2:(a.name==b.name) with
 |false=>exact call0 (usC_ok _) 60 Tryz.func56 (sn_1 a b) (by rw [h1,bne,h2];rfl) rfl
 |true=>
 cases h3:decide (a.key=b.key) with
 |false=>exact call0 (usC_ok _) 60 Tryz.func56 (sn_2 a b) (by rw [h1,bne,h2,h3,decide_eq_true k1,decide_eq_true m1];rfl) rfl
 |true=>
 cases h4:decide (a.sign=b.sign) with
 |false=>exact call0 (usC_ok _) 60 Tryz.func56 (sn_3 a b) (by rw [h1,bne,h2,h3,h4,decide_eq_true k1,decide_eq_true m1,decide_eq_true k2,decide_eq_true m2];rfl) rfl
 |true=>
 cases h5:decide (a.par=b.par) with
 |false=>exact call0 (usC_ok _) 60 Tryz.func56 (sn_4 a b) (by rw [h1,bne,h2,h3,h4,h5,decide_eq_true k1,decide_eq_true m1,decide_eq_true k2,decide_eq_true m2,decide_eq_true k3,decide_eq_true m3];rfl) rfl
 |true=>
 cases h6:((a.un.length:Int) != (b.un.length:Int)) with
 |true=>
  have:decide (a.un=b.un)=false:=decide_eq_false fun q=>by rw [q] at h6;simp at h6
  rw [this]
  exact call0 (usC_ok _) 60 Tryz.func56 (sn_5 a b) (by rw [h1,bne,h2,h3,h4,h5,h6,decide_eq_true k1,decide_eq_true m1,decide_eq_true k2,decide_eq_true m2,decide_eq_true k3,decide_eq_true m3];rfl) rfl
 |false=>
  have hl:a.un.length=b.un.length:=by
   have:((a.un.length:Int)==(b.un.length:Int))=true:=by simpa [bne] using h6
   have:=eq_of_beq this
   omega
  have key:=FnTr.scan (P:=Tryz.prog) (args:=[.agg a.cells,.agg b.cells]) (h:=[]) (h':=[]) Tryz.func56 rfl 4 0 (fun j:Nat=>snS a b ((j:Nat):Int)) (unJ a.un b.un) a.un.length
   (fun x s' g=>TrL.itemsX (usC_ok [(10,false),(16,false),(23,false),(30,false),(37,false),(46,false)]) 60 4 _ 2 (by simp) (s1:=snS a b ((0:Nat):Int)) _ (sn_head a b) (sn_head' a b) (by rw [h1,bne,h2,h3,h4,h5,h6,decide_eq_true k1,decide_eq_true m1,decide_eq_true k2,decide_eq_true m2,decide_eq_true k3,decide_eq_true m3];rfl) (by decide) rfl g) (by decide) (by kernel_rfl)
   (fun j hj hb _=>?_) (fun i=>bS 66 4 false) (fun i=>[.bool false]) (fun j hj hb _=>⟨?_,rfl,rfl⟩) (sE:=⟨slotsOf 66 [],[],true⟩) (sE':=bS 66 4 true) (vE:=[.bool true]) (xE:=.ret) (fun _=>?_) (fun _=>⟨?_,.inl rfl,rfl,rfl⟩)
  ·rw [oneOf_scan (g:=SV.bool) (vF:=fun _:Nat=>false) (vE:=true),unJ_all hl] at key
   exact key
  ·have e:=sn_go a b j
   rw [wrapS (by omega)] at e
   exact Tr.cutX (usC_ok [(52,true),(65,false)]) 60 _ 2 (Nat.zero_le _) (s':=snS a b ((j+1:Nat):Int)) _ e (sn_go' a b j) (by
    have hj2:j<b.un.length:=by omega
    rw [Int.toNat_natCast,ltN hj,inBN hj,decide_eq_true hj,inBN hj2,decide_eq_true hj2,show (!(a.un.getD j 0 != b.un.getD j 0))=true from hb];rfl)
  ·have hj2:j<b.un.length:=by omega
   have hb':(a.un.getD j 0 != b.un.getD j 0)=true:=by
    unfold unJ at hb
    simpa using hb
   exact Tr.cutX (usC_ok [(52,true),(65,true)]) 60 _ 0 (Nat.zero_le _) (s':=bS 66 4 false) _ (sn_no a b j) (sn_no' a b j) (by
    rw [Int.toNat_natCast,ltN hj,inBN hj,decide_eq_true hj,inBN hj2,decide_eq_true hj2,hb'];rfl)
  ·exact Tr.cutX (usC_ok [(52,false)]) 60 _ 0 (Nat.le_refl _) (s':=⟨slotsOf 66 [],[],true⟩) _ (sn_end a b _) (sn_end' a b _) (by rw [nltN (Nat.le_refl _)];rfl)
  ·exact TrL.rest (usC_ok []) 60 (by kernel_rfl) rfl
end
section
variable {N:Nat} {t:Nat→Nod} {nm:Int}
end
end Go.Proofs.YthlnlcijnoadcaaGreatDoor.Tr
end
