/- This file holds the texts MkM, MkQ, MkS, a section each. No conditions beyond those in the theorems. -/
import Derived.Test.YthlnlcijnoadcaaGreatDoorGMkL
import Derived.Test.YthlnlcijnoadcaaGreatDoorGMkB
noncomputable section
open Go.Proofs.Tryz
open Go.IntKind (i64 u8 u64 u32)
set_option linter.all false
set_option maxRecDepth 100000
section
namespace Go.Proofs.YthlnlcijnoadcaaGreatDoor.Mk
open Go Go.Sy Tr Wi S2
open Q2 (bD ku By iN)
def p9 (N:Nat) (t:Nat->aj) (x c:Int):Bool:=qt N t x&&(decide (0<=c)&&(c==aN x||c==aH x))
def iu (t:Nat->aj) (x s:Int):List Int:=dB [[3],(t x.toNat).key,(t x.toNat).par,cr t (t x.toNat).un s].flatten
def GC (N:Nat) (t:Nat->aj) (x c:Int):List Int:=bif p9 N t x c then iu t x (aN x+aH x-c) else cH
section
variable {N:Nat} {t:Nat->aj} {x c:Int}
theorem GD (hT:cF N t) (h:p9 N t x c=true):aM N t=true/\0<=x/\x<N/\x<64/\0<=aN x/\aN x<N/\0<=aH x/\aH x<N/\(N:Int)<=71/\(c=aN x\/c=aH x)/\aN x≠aH x:=by
 unfold p9 qt at h
 simp only [aac,adS,aab,aaS] at h
 obtain ⟨⟨⟨h0,h1⟩,hc⟩,h2,h3⟩:=h
 obtain ⟨n,hn,_,hN,_⟩:=fH hT hc
 have hs:=bu hn
 obtain ⟨y,rfl⟩:=aaB h0
 have hle:=hT.le
 cases hl:iM 7 y with
 |zero=>
  obtain ⟨a,b⟩:=pK hn (show y<2*n-1 by omega) hl
  omega
 |succ k=>
  obtain ⟨a1,a2,a3,a4,_,_,a7⟩:=je hn (show y<2*n-1 by omega) hl
  have hp:1<=2^k:=Nat.one_le_two_pow
  refine ⟨hc,h0,h1,by omega,by omega,by omega,by omega,by omega,by omega,h3,by omega⟩
end
def mrC (l:List (Nat×Bool)):bO:=mk (P:=prog) [gD,Qc 8 (vK 8),xg] [] (uT l)
theorem Qz (l:List (Nat×Bool)):ak prog (mrC l):=az _ aL.nil _ _
theorem abY (N:Nat) (t:Nat->aj) (x c:Int):(aG prog (mrC []) 60 f83 [.aJ false 99 N (aq t),.int .i64 x,.int .i64 c] []).map (λx=>(x.1,x.2.2))=some (.agg [.ints .u8 32 (iu t x (i64.wrap (i64.wrap (aN x+aH x)-c)))],aa (aa (aa (aa (aa (aa (aa (aa (aa (aa true (aa true (decide (0<=x)&&decide (x<64)))) (aX x N)) (true&&(decide (x.toNat<N)&&true))) (aa true ((bF N λi=>af (aq t i))&&decide (N<=71)&&jc N (ag λi=>af (aq t i)) (t x.toNat).un (i64.wrap (i64.wrap (aN x+aH x)-c)) 8))) (aX x N)) (true&&(decide (x.toNat<N)&&true&&true&&decide ((t x.toNat).key.length=32)))) (aX x N)) (true&&(decide (x.toNat<N)&&true&&true&&decide ((t x.toNat).par.length=32)))) (aa true (decide (0+0+32<=av ([]++[SV.ints IntKind.u8 32 (cr (ag λi=>af (aq t i)) (t x.toNat).un (i64.wrap (i64.wrap (aN x+aH x)-c)))]++[]))))) (aa (aa true (aa (aa true (decide ((cr (ag λi=>af (aq t i)) (t x.toNat).un (i64.wrap (i64.wrap (aN x+aH x)-c))).length=32)&&true)) (decide ((cr (ag λi=>af (aq t i)) (t x.toNat).un (i64.wrap (i64.wrap (aN x+aH x)-c))).length=32)))) (decide (([(List.replicate 1 0).set 0 3,(t x.toNat).key,(t x.toNat).par,cr (ag λi=>af (aq t i)) (t x.toNat).un (i64.wrap (i64.wrap (aN x+aH x)-c))],aa (aa (aa (aa true (decide ((cr (ag λi=>af (aq t i)) (t x.toNat).un (i64.wrap (i64.wrap (aN x+aH x)-c))).length=32)&&(decide ((32)<=32)&&decide ((0+0)=0)))) (decide ((cr (ag λi=>af (aq t i)) (t x.toNat).un (i64.wrap (i64.wrap (aN x+aH x)-c))).length=32))) (decide (((List.replicate 1 0).set 0 3).length=1)&&(decide (1<=1)&&decide (0=0)))) (decide (((List.replicate 1 0).set 0 3).length=1))).fst.flatten.length<274877900000)&&decide (([(List.replicate 1 0).set 0 3,(t x.toNat).key,(t x.toNat).par,cr (ag λi=>af (aq t i)) (t x.toNat).un (i64.wrap (i64.wrap (aN x+aH x)-c))],aa (aa (aa (aa true (decide ((cr (ag λi=>af (aq t i)) (t x.toNat).un (i64.wrap (i64.wrap (aN x+aH x)-c))).length=32)&&(decide ((32)<=32)&&decide ((0+0)=0)))) (decide ((cr (ag λi=>af (aq t i)) (t x.toNat).un (i64.wrap (i64.wrap (aN x+aH x)-c))).length=32))) (decide (((List.replicate 1 0).set 0 3).length=1)&&(decide (1<=1)&&decide (0=0)))) (decide (((List.replicate 1 0).set 0 3).length=1))).fst.length<=274877906944)))):=by kernel_rfl
def QA (l:List (Nat×Bool)):bO:=mk (P:=prog) [jh,Gu,ku] [] (uT l)
theorem Ch (l:List (Nat×Bool)):ak prog (QA l):=az _ aL.nil _ _
theorem Ws (N:Nat) (t:Nat->aj) (x c:Int):(aG prog (QA [(20,true),(43,true),(45,true)]) 60 f42 [.aJ false 99 N (aq t),.int .i64 x,.int .i64 c] []).map (λx=>(x.1,x.2.2))=some (.agg [.ints .u8 32 (bD ((([3]++(t x.toNat).key)++(t x.toNat).par)++cr t (t x.toNat).un (aH x)))],aa (aa (aa (aa (aa (aa (aa (aa (aa (aa (aa (aa (aa true (aa true (decide (0<=x)&&decide (x<64)))) (c==aN x)) (aX x N)) (true&&(decide (x.toNat<N)&&true))) (aa true ((bF N λi=>af (aq t i))&&decide (N<=71)&&decide ((t x.toNat).un.length<=274877906944)&&qt N (ag λi=>af (aq t i)) (aH x)&&e9 N (ag λi=>af (aq t i))))) (aX x N)) (true&&(decide (x.toNat<N)&&true&&true&&decide ((t x.toNat).key.length=32)))) (aa true (decide (1+(t x.toNat).key.length<=2^38)))) (aX x N)) (true&&(decide (x.toNat<N)&&true&&true&&decide ((t x.toNat).par.length=32)))) (aa (aa (aa true (decide (((List.replicate 1 0).set 0 3++(t x.toNat).key).length=1+(t x.toNat).key.length)&&(decide (1+(t x.toNat).key.length<=1+(t x.toNat).key.length)&&true))) (decide (((List.replicate 1 0).set 0 3++(t x.toNat).key).length=1+(t x.toNat).key.length))) (decide (1+(t x.toNat).key.length+(t x.toNat).par.length<=2^38)))) (aa (aa (aa (decide ((cr (ag λi=>af (aq t i)) (t x.toNat).un (aH x)).length=32)&&true) (decide (((List.replicate 1 0).set 0 3++(t x.toNat).key++(t x.toNat).par).length=1+(t x.toNat).key.length+(t x.toNat).par.length)&&(decide (1+(t x.toNat).key.length+(t x.toNat).par.length<=1+(t x.toNat).key.length+(t x.toNat).par.length)&&true))) (decide (((List.replicate 1 0).set 0 3++(t x.toNat).key++(t x.toNat).par).length=1+(t x.toNat).key.length+(t x.toNat).par.length))) (decide ((1+(t x.toNat).key.length+(t x.toNat).par.length+32)<=2^38)))) (aa (aa (decide (((List.replicate 1 0).set 0 3++(t x.toNat).key++(t x.toNat).par++cr (ag λi=>af (aq t i)) (t x.toNat).un (aH x)).length=1+(t x.toNat).key.length+(t x.toNat).par.length+32)&&(decide ((1+(t x.toNat).key.length+(t x.toNat).par.length+32)<=1+(t x.toNat).key.length+(t x.toNat).par.length+32)&&true)) (decide (((List.replicate 1 0).set 0 3++(t x.toNat).key++(t x.toNat).par++cr (ag λi=>af (aq t i)) (t x.toNat).un (aH x)).length=1+(t x.toNat).key.length+(t x.toNat).par.length+32))) (decide (((List.replicate 1 0).set 0 3++(t x.toNat).key++(t x.toNat).par++cr (ag λi=>af (aq t i)) (t x.toNat).un (aH x)).length<274877900000)))):=by kernel_rfl
theorem Wt (N:Nat) (t:Nat->aj) (x c:Int):(aG prog (QA [(20,false),(43,true),(45,true)]) 60 f42 [.aJ false 99 N (aq t),.int .i64 x,.int .i64 c] []).map (λx=>(x.1,x.2.2))=some (.agg [.ints .u8 32 (bD ((([3]++(t x.toNat).key)++(t x.toNat).par)++cr t (t x.toNat).un (aN x)))],aa (aa (aa (aa (aa (aa (aa (aa (aa (aa (aa (aa (aa true (aa true (decide (0<=x)&&decide (x<64)))) !c==aN x) (aX x N)) (true&&(decide (x.toNat<N)&&true))) (aa true ((bF N λi=>af (aq t i))&&decide (N<=71)&&decide ((t x.toNat).un.length<=274877906944)&&qt N (ag λi=>af (aq t i)) (aN x)&&e9 N (ag λi=>af (aq t i))))) (aX x N)) (true&&(decide (x.toNat<N)&&true&&true&&decide ((t x.toNat).key.length=32)))) (aa true (decide (1+(t x.toNat).key.length<=2^38)))) (aX x N)) (true&&(decide (x.toNat<N)&&true&&true&&decide ((t x.toNat).par.length=32)))) (aa (aa (aa true (decide (((List.replicate 1 0).set 0 3++(t x.toNat).key).length=1+(t x.toNat).key.length)&&(decide (1+(t x.toNat).key.length<=1+(t x.toNat).key.length)&&true))) (decide (((List.replicate 1 0).set 0 3++(t x.toNat).key).length=1+(t x.toNat).key.length))) (decide (1+(t x.toNat).key.length+(t x.toNat).par.length<=2^38)))) (aa (aa (aa (decide ((cr (ag λi=>af (aq t i)) (t x.toNat).un (aN x)).length=32)&&true) (decide (((List.replicate 1 0).set 0 3++(t x.toNat).key++(t x.toNat).par).length=1+(t x.toNat).key.length+(t x.toNat).par.length)&&(decide (1+(t x.toNat).key.length+(t x.toNat).par.length<=1+(t x.toNat).key.length+(t x.toNat).par.length)&&true))) (decide (((List.replicate 1 0).set 0 3++(t x.toNat).key++(t x.toNat).par).length=1+(t x.toNat).key.length+(t x.toNat).par.length))) (decide ((1+(t x.toNat).key.length+(t x.toNat).par.length+32)<=2^38)))) (aa (aa (decide (((List.replicate 1 0).set 0 3++(t x.toNat).key++(t x.toNat).par++cr (ag λi=>af (aq t i)) (t x.toNat).un (aN x)).length=1+(t x.toNat).key.length+(t x.toNat).par.length+32)&&(decide ((1+(t x.toNat).key.length+(t x.toNat).par.length+32)<=1+(t x.toNat).key.length+(t x.toNat).par.length+32)&&true)) (decide (((List.replicate 1 0).set 0 3++(t x.toNat).key++(t x.toNat).par++cr (ag λi=>af (aq t i)) (t x.toNat).un (aN x)).length=1+(t x.toNat).key.length+(t x.toNat).par.length+32))) (decide (((List.replicate 1 0).set 0 3++(t x.toNat).key++(t x.toNat).par++cr (ag λi=>af (aq t i)) (t x.toNat).un (aN x)).length<274877900000)))):=by kernel_rfl
section
variable {N:Nat} {t:Nat->aj} {x c:Int}
theorem K2 (hT:cF N t) (h:p9 N t x c=true):ai prog 83 [.aJ false 99 N (aq t),.int .i64 x,.int .i64 c] [] (.agg [.ints .u8 32 (iu t x (aN x+aH x-c))]) []:=by
 obtain ⟨hc,h0,h1,h2,h3,h4,h5,h6,h7,h8,h9⟩:=GD hT h
 have hok:bF N (λi=>af (aq t i))=true:=bq hT
 have ht:(ag λi=>af (aq t i))=t:=rfl
 have e:=abY N t x c
 rw [cg (n:=aN x+aH x) (by omega) (by omega),cg (n:=aN x+aH x-c) (by omega) (by omega)] at e
 have hi:x.toNat<N:=by omega
 have hw:=hT.un x.toNat hi
 have hd:=qu hT hc hw (x:=aN x+aH x-c) (by omega) (by omega)
 have hin:aX x N=true:=by
  obtain ⟨y,rfl⟩:=aaB h0
  exact bf (by omega)
 have l1:=hT.key x.toNat hi
 have l2:=hT.par x.toNat hi
 have l3:=jd t (t x.toNat).un (aN x+aH x-c)
 refine aI (Qz []) 60 func83 e ?_ rfl
 rw [ht,hok,hin,hd,Me hi,Me hT.le,Me h0,Me h2]
 simp [aC,l1,l2,l3,av,gS]
theorem GF (hT:cF N t) (h:p9 N t x c=true) (hb:e9 N t=true):ai prog 42 [.aJ false 99 N (aq t),.int .i64 x,.int .i64 c] [] (.agg [.ints .u8 32 (iu t x (aN x+aH x-c))]) []:=by
 obtain ⟨hc,h0,h1,h2,h3,h4,h5,h6,h7,h8,h9⟩:=GD hT h
 have hok:bF N (λi=>af (aq t i))=true:=bq hT
 have ht:(ag λi=>af (aq t i))=t:=rfl
 have hi:x.toNat<N:=by omega
 have hw:=hT.un x.toNat hi
 have hin:aX x N=true:=by
  obtain ⟨y,rfl⟩:=aaB h0
  exact bf (by omega)
 have l1:=hT.key x.toNat hi
 have l2:=hT.par x.toNat hi
 have ok:=r6 hT hb x.toNat hi
 have eq:∀s,iu t x s=bD ((([3]++(t x.toNat).key)++(t x.toNat).par)++cr t (t x.toNat).un s):=λs=>by
  have l3:=jd t (t x.toNat).un s
  have hby:By (cr t (t x.toNat).un s):=by
   unfold cr
   cases iM 7 s.toNat<;>(unfold mG;exact tS _)
  have e:[[3],(t x.toNat).key,(t x.toNat).par,cr t (t x.toNat).un s].flatten=(([3]++(t x.toNat).key)++(t x.toNat).par)++cr t (t x.toNat).un s:=by
   simp only [List.flatten_cons,List.flatten_nil,aaz,aaE]
  unfold iu
  rw [e]
  refine iN (gE (gE (gE (by intro z hz;simp at hz;omega) ok.key.2) ok.par.2) hby) ?_
  simp only [aar,adY,List.length_nil,l1,l2,l3];omega
 have q1:∀s:Int,0<=s->s<N->qt N t s=true:=λs a b=>by unfold qt;rw [hc,Me a,Me b];rfl
 have dw:=Me hw
 by_cases lF:c=aN x
 ·have e:=Ws N t x c
  rw [<-eq] at e
  rw [show aN x+aH x-c=aH x by omega]
  refine aI (Ch _) 60 func42 e ?_ rfl
  have l3:=jd t (t x.toNat).un (aH x)
  rw [ht,hok,hin,q1 _ h5 h6,hb,dw,Me hi,Me hT.le,Me h0,Me h2,show (c==aN x)=true from aaS.2 lF]
  simp [aC,l1,l2,l3,av,gS]
 ·have e:=Wt N t x c
  rw [<-eq] at e
  rw [show aN x+aH x-c=aN x by omega]
  refine aI (Ch _) 60 func42 e ?_ rfl
  have l3:=jd t (t x.toNat).un (aN x)
  rw [ht,hok,hin,q1 _ h3 h4,hb,dw,Me hi,Me hT.le,Me h0,Me h2,show (c==aN x)=false from beq_false_of_ne lF]
  simp [aC,l1,l2,l3,av,gS]
end
def Wu:Entry prog:=.val 83 _ func83 (by decide) rfl true 0 (λvs=>match vs with
 | [.aJ false 99 N g,.int .i64 x,.int .i64 c]=>some (.agg [.ints .u8 32 (iu (ag g) x (aN x+aH x-c))],[],bF N g&&decide (N<=71)&&p9 N (ag g) x c)
 |_=>none) λvs v new e=>by
 split at e
 ·simp only [No,aae,aac,aab] at e
  obtain ⟨rfl,rfl,⟨h1,h2⟩,h3⟩:=e
  exact ai.conv (K2 (cF.of h1 h2) h3) ⟨VE.tree h1,VE.refl _,VE.refl _,trivial⟩ trivial (VE.refl _) trivial
 ·cases e
def Oo (b:Bool) (l:List (Nat×Bool)):bO:=mk (P:=prog) [tM b,gD,Wu] [] (uT l)
theorem oo (b:Bool) (l:List (Nat×Bool)):ak prog (Oo b l):=az _ aL.nil _ _
abbrev noMark:SV:=.bC [.agg [.ints .u8 32 cH],.bool false]
theorem abZ (N:Nat) (t:Nat->aj) (x c:Int):(aG prog (Oo true [(11,true)]) 60 f40 [.aJ false 99 N (aq t),.int .i64 x,.int .i64 c] []).map (λx=>(x.1,x.2.2))=some (noMark,aa true (decide (x<0))):=by kernel_rfl
theorem ab0 (N:Nat) (t:Nat->aj) (x c:Int):(aG prog (Oo true [(11,false),(16,true)]) 60 f40 [.aJ false 99 N (aq t),.int .i64 x,.int .i64 c] []).map (λx=>(x.1,x.2.2))=some (noMark,aa (aa true !decide (x<0)) (decide (x>=((N:Nat):Int)))):=by kernel_rfl
theorem ab1 (N:Nat) (t:Nat->aj) (x c:Int):(aG prog (Oo false [(11,false),(16,false)]) 60 f40 [.aJ false 99 N (aq t),.int .i64 x,.int .i64 c] []).map (λx=>(x.1,x.2.2))=some (noMark,aa (aa (aa true !decide (x<0)) !decide (x>=((N:Nat):Int))) (aa true ((bF N λi=>af (aq t i))&&decide (N<=71)&&aM N (ag λi=>af (aq t i))==false))):=by kernel_rfl
theorem ab2 (N:Nat) (t:Nat->aj) (x c:Int):(aG prog (Oo true [(11,false),(16,false),(30,true)]) 60 f40 [.aJ false 99 N (aq t),.int .i64 x,.int .i64 c] []).map (λx=>(x.1,x.2.2))=some (noMark,aa (aa (aa (aa (aa true !decide (x<0)) !decide (x>=((N:Nat):Int))) (aa true ((bF N λi=>af (aq t i))&&decide (N<=71)&&aM N (ag λi=>af (aq t i))==true))) (aa true (decide (0<=x)&&decide (x<64)))) (decide (c<0))):=by kernel_rfl
theorem ab3 (N:Nat) (t:Nat->aj) (x c:Int):(aG prog (Oo true [(11,false),(16,false),(30,false),(34,true),(38,true)]) 60 f40 [.aJ false 99 N (aq t),.int .i64 x,.int .i64 c] []).map (λx=>(x.1,x.2.2))=some (noMark,aa (aa (aa (aa (aa (aa (aa true !decide (x<0)) !decide (x>=((N:Nat):Int))) (aa true ((bF N λi=>af (aq t i))&&decide (N<=71)&&aM N (ag λi=>af (aq t i))==true))) (aa true (decide (0<=x)&&decide (x<64)))) !decide (c<0)) (c != aN x)) (c != aH x)):=by kernel_rfl
theorem ab4 (N:Nat) (t:Nat->aj) (x c:Int):(aG prog (Oo true [(11,false),(16,false),(30,false),(34,false)]) 60 f40 [.aJ false 99 N (aq t),.int .i64 x,.int .i64 c] []).map (λx=>(x.1,x.2.2))=some (.bC [.agg [.ints .u8 32 (iu t x (aN x+aH x-c))],.bool true],aa (aa (aa (aa (aa (aa (aa true !decide (x<0)) !decide (x>=((N:Nat):Int))) (aa true ((bF N λi=>af (aq t i))&&decide (N<=71)&&aM N (ag λi=>af (aq t i))==true))) (aa true (decide (0<=x)&&decide (x<64)))) !decide (c<0)) !c != aN x) (aa true ((bF N λi=>af (aq t i))&&decide (N<=71)&&p9 N (ag λi=>af (aq t i)) x c))):=by kernel_rfl
theorem ab5 (N:Nat) (t:Nat->aj) (x c:Int):(aG prog (Oo true [(11,false),(16,false),(30,false),(34,true),(38,false)]) 60 f40 [.aJ false 99 N (aq t),.int .i64 x,.int .i64 c] []).map (λx=>(x.1,x.2.2))=some (.bC [.agg [.ints .u8 32 (iu t x (aN x+aH x-c))],.bool true],aa (aa (aa (aa (aa (aa (aa (aa true !decide (x<0)) !decide (x>=((N:Nat):Int))) (aa true ((bF N λi=>af (aq t i))&&decide (N<=71)&&aM N (ag λi=>af (aq t i))==true))) (aa true (decide (0<=x)&&decide (x<64)))) !decide (c<0)) (c != aN x)) !c != aH x) (aa true ((bF N λi=>af (aq t i))&&decide (N<=71)&&p9 N (ag λi=>af (aq t i)) x c))):=by kernel_rfl
section
variable {N:Nat} {t:Nat->aj} {x c:Int}
theorem GG (hT:cF N t):ai prog 40 [.aJ false 99 N (aq t),.int .i64 x,.int .i64 c] [] (.bC [.agg [.ints .u8 32 (GC N t x c)],.bool (p9 N t x c)]) []:=by
 have hok:bF N (λi=>af (aq t i))=true:=bq hT
 have ht:(ag λi=>af (aq t i))=t:=rfl
 have no:p9 N t x c=false->ai prog 40 [.aJ false 99 N (aq t),.int .i64 x,.int .i64 c] [] noMark []->ai prog 40 [.aJ false 99 N (aq t),.int .i64 x,.int .i64 c] [] (.bC [.agg [.ints .u8 32 (GC N t x c)],.bool (p9 N t x c)]) []:=λq g=>by
  unfold GC;rw [q];exact g
 by_cases h0:x<0
 ·exact no (by unfold p9 qt;rw [aam (show ¬0<=x by omega)];rfl) (aI (oo _ _) 60 func40 (abZ N t x c) (by rw [Me h0];rfl) rfl)
 have n0:=aam h0
 by_cases h1:x>=N
 ·exact no (by unfold p9 qt;rw [aam (show ¬x<(N:Int) by omega),acC];rfl) (aI (oo _ _) 60 func40 (ab0 N t x c) (by rw [n0,Me h1];rfl) rfl)
 have n1:=aam h1
 cases hc:aM N t with
 |false=>exact no (by unfold p9 qt;rw [hc,acC];rfl) (aI (oo _ _) 60 func40 (ab1 N t x c) (by rw [n0,n1,ht,hok,Me hT.le,hc];rfl) rfl)
 |true=>
 have hQ:qt N t x=true:=by unfold qt;rw [hc,Me (show 0<=x by omega),Me (show x<(N:Int) by omega)];rfl
 have h64:x<64:=by
  obtain ⟨n,hn,_,hN,_⟩:=fH hT hc
  have:=bu hn
  omega
 have p0:decide (0<=x)=true:=Me (by omega)
 have p1:decide (x<64)=true:=Me h64
 by_cases h2:c<0
 ·exact no (by unfold p9;rw [aam (show ¬0<=c by omega),adw,acC]) (aI (oo _ _) 60 func40 (ab2 N t x c) (by rw [n0,n1,ht,hok,Me hT.le,hc,p0,p1,Me h2];rfl) rfl)
 have n2:=aam h2
 by_cases h3:c=aN x
 ·have q:p9 N t x c=true:=by unfold p9;rw [hQ,Me (show 0<=c by omega),show (c==aN x)=true from aaS.2 h3];rfl
  unfold GC;rw [q]
  exact aI (oo _ _) 60 func40 (ab4 N t x c) (by rw [n0,n1,ht,hok,Me hT.le,hc,p0,p1,n2,q,show (c != aN x)=false by simp [h3]];rfl) rfl
 ·by_cases h4:c=aH x
  ·have q:p9 N t x c=true:=by unfold p9;rw [hQ,Me (show 0<=c by omega),show (c==aH x)=true from aaS.2 h4,Bool.or_true];rfl
   unfold GC;rw [q]
   exact aI (oo _ _) 60 func40 (ab5 N t x c) (by rw [n0,n1,ht,hok,Me hT.le,hc,p0,p1,n2,q,show (c != aN x)=true by simp [h3],show (c != aH x)=false by simp [h4]];rfl) rfl
  ·exact no (by unfold p9;rw [show (c==aN x)=false from beq_false_of_ne h3,show (c==aH x)=false from beq_false_of_ne h4,Bool.or_false,acC,acC]) (aI (oo _ _) 60 func40 (ab3 N t x c) (by rw [n0,n1,ht,hok,Me hT.le,hc,p0,p1,n2,show (c != aN x)=true by simp [h3],show (c != aH x)=true by simp [h4]];rfl) rfl)
end
end Go.Proofs.YthlnlcijnoadcaaGreatDoor.Mk
end
section
namespace Go.Proofs.YthlnlcijnoadcaaGreatDoor.Mk
open Go Go.Sy Tr Wi S2
section
variable {t:Nat->aj} {f:Nat->List Int} {N n:Nat}
theorem GH (t u:Nat->aj) (wo:List Int):∀(k y:Nat),(∀z,y<z+2^k->z<y+2^k->u z=t z)->mG u wo k y=mG t wo k y:=by
 intro k
 induction k with
 |zero=>
  intro y h
  have:=h y (by omega) (by omega)
  unfold mG vI
  rw [this]
 |succ k ih=>
  intro y h
  have hp:1<=2^k:=Nat.one_le_two_pow
  have e:2^(k+1)=2*2^k:=by rw [Nat.pow_succ];omega
  rw [e] at h
  unfold mG
  rw [h y (by omega) (by omega),ih (y-2^k) (λz a b=>h z (by omega) (by omega)),ih (y+2^k) (λz a b=>h z (by omega) (by omega))]
end
end Go.Proofs.YthlnlcijnoadcaaGreatDoor.Mk
end
section
namespace Go.Sy
open Go
section
variable {k:Nat}
theorem bE.xp {t:List (Option SV)} {h:List Blk} {o o':Bool} (i:Nat) (hi:t[i]? =some (some (.nl (.slice none 0 0)))) (z:Nat) (g:Nat->List SV) (ex:Bool):bE k ⟨t,h,o⟩ ⟨t.set i (some (.bK h.length z 0 0 ex)),h++[.b [.rows z 0 g]],o'⟩:=
 λB e w t' _ hl R=>⟨e,rfl,⟨by simpa using hl.1,λj v v' a c=>by
  by_cases hij:i=j
  ·subst hij
   rw [aay (aal.1 hi).1] at a
   simp only [No] at a
   subst a
   have h1:v'= .slice none 0 0:=hl.2 i _ v' hi c
   exact .inl ⟨rfl,rfl,none,h1⟩
  ·rw [aau hij] at a
   exact hl.2 j v v' a c⟩,by
  have:=R.nothing (j:=h.length) (ps:=[.rows z 0 g]) (.inl rfl) (by simp [av,gS])
  unfold bI at this
  rw [aaM rfl] at this
  exact this⟩
end
end Go.Sy
namespace Go.Proofs.YthlnlcijnoadcaaGreatDoor.Mk
open Go Go.Sy Tr Wi S2
def DY (l:List (Nat×Bool)):bO:=mk (P:=prog) [] [] (uT l)
theorem ot (l:List (Nat×Bool)):ak prog (DY l):=az _ aL.nil _ _
def bcB:Code:=aP f22
def QB:Code:=inner (inner (au 3 bcB))
def Wv:Code:=inner (au 2 QB)
def z8 (N:Nat) (t:Nat->aj) (n:Nat) (i:Int):St:=⟨slotsOf 26 [(0,.aJ false 99 N (aq t)),(3,.bK 0 99 n n false),(4,.int .i64 i)],[.b [.rows 99 n (aq t)]],true⟩
abbrev tU (n:aj) (v:SV):List SV:=[.bool n.used,.int .i64 n.name,.ints .u8 32 n.key,.ints .u8 32 n.sign,.ints .u8 32 n.par,v]
def GI (N:Nat) (t:Nat->aj) (n:Nat) (i:Int):List (Option SV):=slotsOf 26 [(0,.aJ false 99 N (aq t)),(3,.bK 0 99 n n false),(4,.int .i64 i),(5,.ptr 1 0 0)]
theorem K3 (N:Nat) (t:Nat->aj):aA (ah [0,3,4] 0 ((aE prog (DY []) 60 0 3 (atoms bcB) ⟨aD f22.ntmps [.aJ false 99 N (aq t)],[],true⟩).map λs=>(Exit.normal,s)))=some (.normal,slotsOf 26 [(0,.aJ false 99 N (aq t)),(3,.nl (.slice none 0 0)),(4,.int .i64 0)],[]):=by kernel_rfl
theorem GJ (N:Nat) (t:Nat->aj):aZ (ah [0,3,4] 0 ((aE prog (DY []) 60 0 3 (atoms bcB) ⟨aD f22.ntmps [.aJ false 99 N (aq t)],[],true⟩).map λs=>(Exit.normal,s)))=(true):=by kernel_rfl
theorem ab7 (N:Nat) (t:Nat->aj) (n:Nat) (i:Int):aA (ah [0,3,4] 1 ((aE prog (DY [(9,true)]) 60 0 2 (atoms QB) (z8 N t n i)).map λs=>(Exit.normal,s)))=some (.normal,(z8 N t n i).t,(z8 N t n i).h):=by kernel_rfl
theorem Ww (N:Nat) (t:Nat->aj) (n:Nat) (i:Int):aZ (ah [0,3,4] 1 ((aE prog (DY [(9,true)]) 60 0 2 (atoms QB) (z8 N t n i)).map λs=>(Exit.normal,s)))=(aa true (decide (i<((N:Nat):Int)))):=by kernel_rfl
theorem ab8 (N:Nat) (t:Nat->aj) (n:Nat) (i:Int):aA (ah [0,3,4,5] 3 ((aE prog (DY []) 60 0 2 (atoms Wv) (z8 N t n i)).map λs=>(Exit.normal,s)))=some (.normal,GI N t n i,[.b [.rows 99 n (aq t)],.b (tU (t i.toNat) (.sl 2 0 0 1 (0+(t i.toNat).un.length) (0+(t i.toNat).un.length) false true)),.b [.ints .i64 (0+(t i.toNat).un.length) (List.replicate 0 0++(t i.toNat).un)]]):=by kernel_rfl
theorem Wx (N:Nat) (t:Nat->aj) (n:Nat) (i:Int):aZ (ah [0,3,4,5] 3 ((aE prog (DY []) 60 0 2 (atoms Wv) (z8 N t n i)).map λs=>(Exit.normal,s)))=(aa (aa (aa true (aX i N)) (true&&(decide (i.toNat<N)&&true))) (aa true (decide (0+(t i.toNat).un.length<=2^38)))):=by kernel_rfl
theorem ab9 (N:Nat) (t:Nat->aj) (n:Nat) (i:Int) (m:aj):aA (ah [0,3,4] 1 (cn prog (DY []) 60 0 ((atoms Wv).drop 2) ⟨GI N t n i,[.b [.rows 99 n (aq t)],.b (tU m (.ro false .i64 m.un))],true⟩))=some (.normal,slotsOf 26 [(0,.aJ false 99 N (aq t)),(3,.bK 0 99 (n+1) (n+1) false),(4,.int .i64 i)],[.b [.rows 99 (n+1) λj=>br (Nat.ble (j+1) n) (aq t j) m.cells]]):=by kernel_rfl
theorem Wy (N:Nat) (t:Nat->aj) (n:Nat) (i:Int) (m:aj):aZ (ah [0,3,4] 1 (cn prog (DY []) 60 0 ((atoms Wv).drop 2) ⟨GI N t n i,[.b [.rows 99 n (aq t)],.b (tU m (.ro false .i64 m.un))],true⟩))=(aa true (aa (aa true (decide (n<=n))) (decide (n+1<=2^38)))):=by kernel_rfl
theorem acd (N:Nat) (t:Nat->aj) (n:Nat) (i:Int):aA (ah [0,3,4] 1 (cn prog (DY []) 60 0 ((atoms QB).drop 3) (z8 N t n i)))=some (.normal,(z8 N t n (i64.wrap (i+1))).t,(z8 N t n i).h):=by kernel_rfl
theorem Wz (N:Nat) (t:Nat->aj) (n:Nat) (i:Int):aZ (ah [0,3,4] 1 (cn prog (DY []) 60 0 ((atoms QB).drop 3) (z8 N t n i)))=(true):=by kernel_rfl
theorem QC (N:Nat) (t:Nat->aj) (n:Nat) (i:Int):aA (ah [3] 1 (exec prog (DY [(9,false)]) 60 0 QB (z8 N t n i)))=some (.exit 0,slotsOf 26 [(3,.bK 0 99 n n false)],[.b [.rows 99 n (aq t)]]):=by kernel_rfl
theorem K4 (N:Nat) (t:Nat->aj) (n:Nat) (i:Int):aZ (ah [3] 1 (exec prog (DY [(9,false)]) 60 0 QB (z8 N t n i)))=(aa true !decide (i<((N:Nat):Int))):=by kernel_rfl
theorem ace (N:Nat) (t:Nat->aj) (n:Nat) (i:Int) (m:aj):St.fz 2 ⟨GI N t n i,[.b [.rows 99 n (aq t)],.b (tU m (.sl 2 0 0 1 m.un.length m.un.length false true)),.b [.ints .i64 m.un.length m.un]],true⟩=some (⟨GI N t n i,[.b [.rows 99 n (aq t)],.b (tU m (.ro true .i64 m.un)),.b []],true⟩,aa (decide (m.un.length=m.un.length)) (aa ((GI N t n i).all λo=>match o with|some v=>lW 2 m.un.length v|none=>true) (lQ 2 m.un.length [.b [.rows 99 n (aq t)],.b (tU m (.sl 2 0 0 1 m.un.length m.un.length false true)),.b [.ints .i64 m.un.length m.un]] 0))):=by kernel_rfl
theorem QD (N:Nat) (t:Nat->aj) (n:Nat) (i:Int) (m:aj):bE 0 ⟨GI N t n i,[.b [.rows 99 n (aq t)],.b (tU m (.sl 2 0 0 1 m.un.length m.un.length false true)),.b [.ints .i64 m.un.length m.un]],true⟩ ⟨GI N t n i,[.b [.rows 99 n (aq t)],.b (tU m (.ro false .i64 m.un))],true⟩:=by
 have e:=ace N t n i m
 have e2:lQ 2 m.un.length [.b [.rows 99 n (aq t)],.b (tU m (.sl 2 0 0 1 m.un.length m.un.length false true)),.b [.ints .i64 m.un.length m.un]] 0=true:=by simp [lQ,xh,lW,lR,aC]
 have e3:((GI N t n i).all λo=>match o with|some v=>lW 2 m.un.length v|none=>true)=true:=by kernel_rfl
 rw [e2,e3,Me rfl] at e
 refine (bE.freeze (k:=0) (b:=2) (aap _) e).trans ?_
 refine (bE.dn (n:=2) (aap _) (s':=⟨GI N t n i,[.b [.rows 99 n (aq t)],.b (tU m (.ro true .i64 m.un))],true⟩) (by kernel_rfl)).trans ?_
 exact bE.vc ⟨PE.refl _,PE.last (ps:=[.bool m.used,.int .i64 m.name,.ints .u8 32 m.key,.ints .u8 32 m.sign,.ints .u8 32 m.par]) rfl rfl (VE.AP true .i64 m.un),trivial⟩
theorem GK (t:Nat->aj) (n:Nat):∀i,i<n+1->PE (br (Nat.ble (i+1) n) (aq t i) (t n).cells) (aq t i):=λi hi=>by
 by_cases h:i<n
 ·rw [adO (show i+1<=n by omega)];exact PE.refl _
 ·obtain rfl:i=n:=by omega
  rw [show Nat.ble (i+1) i=false from by
   cases hb:Nat.ble (i+1) i with
   |false=>rfl
   |true=>have:=aaP hb;omega]
  exact PE.refl _
theorem GL {N:Nat} {t:Nat->aj} (hT:cF N t):ai prog 22 [.aJ false 99 N (aq t)] [] (.bK 0 99 N N false) [.b [.rows 99 N (aq t)]]:=by
 have hle:=hT.le
 refine ai.toEnd (h:=[]) func22 rfl 3 0 (λj=>z8 N t j ((j:Nat):Int)) N
  (λy s' g=>aV.bk (ot []) 60 3 _ 0 (aap _) (s1:=⟨slotsOf 26 [(0,.aJ false 99 N (aq t)),(3,.nl (.slice none 0 0)),(4,.int .i64 0)],[],true⟩) _ (K3 N t) (GJ N t) rfl (by decide) rfl (aV.pre g (bE.xp 3 rfl 99 (aq t) false) (by intro q;cases q))) (by decide) (by kernel_rfl)
  (λj hj=>?_) (sE:=⟨slotsOf 26 [(3,.bK 0 99 N N false)],[.b [.rows 99 N (aq t)]],true⟩) (s':=⟨slotsOf 26 [(2,.bK 0 99 N N false),(3,.bK 0 99 N N false),(25,.bK 0 99 N N false)],[.b [.rows 99 N (aq t)]],true⟩) (x:=.ret) (v:=[.bK 0 99 N N false]) ?_ ?_ (.inl rfl) (by kernel_rfl)
 ·refine Tr.dr (aV.bk (ot [(9,true)]) 60 2 _ 1 (aap _) (s1:=z8 N t j j) _ (ab7 N t j j) (Ww N t j j) (by rw [fo hj];rfl) (by decide) rfl ?_)
  refine aV.item 2 (by decide) (s1:=z8 N t (j+1) ((j:Nat):Int)) ?_ ?_
  ·rw [show au 2 (inner (inner (au 3 (aP f22))))= .block 1 Wv by kernel_rfl]
   refine Tr.b8 (Tr.dr ?_) (by simp)
   have e:=ab8 N t j j
   have e':=Wx N t j j
   rw [aaa,abC,List.replicate_zero,List.nil_append] at e
   rw [aaa,abC] at e'
   refine aV.bk (ot []) 60 2 _ 3 (aap _) (s1:=⟨GI N t j j,[.b [.rows 99 j (aq t)],.b (tU (t j) (.sl 2 0 0 1 (t j).un.length (t j).un.length false true)),.b [.ints .i64 (t j).un.length (t j).un]],true⟩) _ e e' (by rw [bf hj,Me hj,Me (show (t j).un.length<=2^38 by have:=hT.un j hj;omega)];rfl) (by decide) rfl ?_
   refine aV.pre ?_ (QD N t j j (t j)) (by intro q;cases q)
   refine aV.post (s1:=⟨slotsOf 26 [(0,.aJ false 99 N (aq t)),(3,.bK 0 99 (j+1) (j+1) false),(4,.int .i64 j)],[.b [.rows 99 (j+1) λi=>br (Nat.ble (i+1) j) (aq t i) (t j).cells]],true⟩) (aV.og (ot []) 60 _ 1 (aap _) _ (ab9 N t j j (t j)) (Wy N t j j (t j)) (by rw [Me (aaf _),Me (show j+1<=2^38 by omega)];rfl) (by intro q;cases q)) (bE.vc ⟨PE.rows (GK t j),trivial⟩) (by intro q;cases q)
  ·have e:=acd N t (j+1) j
   rw [cq (by omega)] at e
   exact aV.og (ot []) 60 _ 1 (aap _) (s':=z8 N t (j+1) ((j+1:Nat):Int)) _ e (Wz N t (j+1) j) rfl (by intro q;cases q)
 ·exact Tr.aR (ot [(9,false)]) 60 _ 1 (aap _) _ (QC N t N N) (K4 N t N N) (by rw [fA (aaf _)];rfl)
 ·exact aV.rest (ot []) 60 (by kernel_rfl) rfl
def QE:Entry prog:=.val 22 _ func22 (by decide) rfl true 1 (λvs=>match vs with
 | [.aJ false 99 N g]=>some (.bK 0 99 N N false,[.b [.rows 99 N (aq (ag g))]],bF N g&&decide (N<=71))
 |_=>none) λvs v new e=>by
 split at e
 ·simp only [No,aae,aac,aab] at e
  obtain ⟨rfl,rfl,h1,h2⟩:=e
  exact ai.conv (GL (cF.of h1 h2)) ⟨VE.tree h1,trivial⟩ trivial (VE.refl _) ⟨PE.refl _,trivial⟩
 ·cases e
end Go.Proofs.YthlnlcijnoadcaaGreatDoor.Mk
end
