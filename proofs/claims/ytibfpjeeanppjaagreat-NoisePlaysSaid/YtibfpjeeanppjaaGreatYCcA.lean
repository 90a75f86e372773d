/- This file proves the contracts of chacha's Quarter, check and Piece. Conditions: nonces of 12 bytes; numbers of 32 bits. -/
import Derived.Test.YtibfpjeeanppjaaGreatYS2B
set_option linter.all false
set_option maxRecDepth 100000
namespace Go.Proofs.YtibfpjeeanppjaaGreat.Cc
open Go Go.Sy Sh
abbrev V (n:Int):Int:=IntKind.u32.wrap n
def qr (a b c d:Int):Int×Int×Int×Int:=
 let a1:=V (a+b)
 let d1:=S2.mQ (cm .u32 d a1) 16
 let c1:=V (c+d1)
 let b1:=S2.mQ (cm .u32 b c1) 12
 let a2:=V (a1+b1)
 let d2:=S2.mQ (cm .u32 d1 a2) 8
 let c2:=V (c1+d2)
 (a2,S2.mQ (cm .u32 b1 c2) 7,c2,d2)
noncomputable def Kt:bu:=mk (P:=Tryz.prog) [S2.QF] []
theorem kj:ag Tryz.prog Kt:=ah _ au.nil _ _
def quF:List SV→Option (SV×List Blk×Bool)
 | [.int .u32 a,.int .u32 b,.int .u32 c,.int .u32 d]=>some (.aT [.int .u32 (qr a b c d).1,.int .u32 (qr a b c d).2.1,.int .u32 (qr a b c d).2.2.1,.int .u32 (qr a b c d).2.2.2],[],true)
 |_=>none
noncomputable def quE:Entry Tryz.prog:=.val 149 _ Tryz.func149 (by decide) rfl false 0 quF fun vs v new e=>by
 unfold quF at e
 split at e
 ·cases e
  exact aF kj 60 Tryz.func149 (p:=true) (by kernel_rfl) rfl rfl
 ·cases e
noncomputable def chC:bu:=mk (P:=Tryz.prog) [] [] fun i=>if i=8||i=12||i=15 then some false else none
theorem DS:ag Tryz.prog chC:=ah _ au.nil _ _
def chF:List SV→Option (SV×List Blk×Bool)
 | [.ro _ .u8 l,.int .i64 n]=>some (.nl .nilIface,[],decide (l.length=12)&&decide (0≤n)&&decide (n≤4294967295))
 |_=>none
noncomputable def chE:Entry Tryz.prog:=.val 112 _ Tryz.func112 (by decide) rfl true 0 chF fun vs v new e=>by
 unfold chF at e
 split at e
 ·rename_i f l n
  simp only [Option.some.injEq,Prod.mk.injEq,Bool.and_eq_true,decide_eq_true_eq] at e
  obtain ⟨rfl,rfl,⟨h1,h2⟩,h3⟩:=e
  exact aF DS 60 Tryz.func112 (p:=aa (aa (aa true (!(l.length:Int) != 12)) (!decide (n<0))) (!decide (n>4294967295))) (by kernel_rfl) (by rw [h1,decide_eq_false (show ¬n<0 by omega),decide_eq_false (show ¬n>4294967295 by omega)];rfl) rfl
 ·cases e
def wdL (l:List Int) (i:Nat):Int:=gi .u32 (gi .u32 (gi .u32 (V (l.getD (4*i) 0)) (c7 .u32 (V (l.getD (4*i+1) 0)) 8)) (c7 .u32 (V (l.getD (4*i+2) 0)) 16)) (c7 .u32 (V (l.getD (4*i+3) 0)) 24)
def Dw (key af:List Int) (n:Int):List Int:=[1634760805,857760878,2036477234,1797285236]++(List.range 8).map (wdL key)++[V n]++(List.range 3).map (wdL af)
def qst (x:List Int) (q:Nat×Nat×Nat×Nat):List Int:=
 (((x.set q.1 (qr (x.getD q.1 0) (x.getD q.2.1 0) (x.getD q.2.2.1 0) (x.getD q.2.2.2 0)).1).set q.2.1 (qr (x.getD q.1 0) (x.getD q.2.1 0) (x.getD q.2.2.1 0) (x.getD q.2.2.2 0)).2.1).set q.2.2.1 (qr (x.getD q.1 0) (x.getD q.2.1 0) (x.getD q.2.2.1 0) (x.getD q.2.2.2 0)).2.2.1).set q.2.2.2 (qr (x.getD q.1 0) (x.getD q.2.1 0) (x.getD q.2.2.1 0) (x.getD q.2.2.2 0)).2.2.2
def UR:List (Nat×Nat×Nat×Nat):=[(0,4,8,12),(1,5,9,13),(2,6,10,14),(3,7,11,15),(0,5,10,15),(1,6,11,12),(2,7,8,13),(3,4,9,14)]
def dbl (x:List Int):List Int:=UR.foldl qst x
def iS (x:List Int):Nat→List Int
 |0=>x
 |j+1=>dbl (iS x j)
def WR (s x:List Int):List Int:=(List.range 64).map fun i=>IntKind.u8.wrap (bO .u32 (V (x.getD (i/4) 0+s.getD (i/4) 0)) (8*(i%4)))
noncomputable def fq (key af:List Int) (n:Int):List Int:=gY (WR (Dw key af n) (iS (Dw key af n) 10))
theorem FD (key af:List Int) (n:Int):(fq key af n).length=64:=by rw [fq,aD];simp [WR]
theorem Im:au Tryz.prog [(147,Tryz.f147),(148,Tryz.f148)]:=au.cons Tryz.func147 (by decide) (au.cons Tryz.func148 (by decide) au.nil)
noncomputable def pcC (b:Bool):bu:=mk (P:=Tryz.prog) [quE,chE] [(147,Tryz.f147),(148,Tryz.f148)] fun i=>if i=53 then some b else none
theorem Ku (b:Bool):ag Tryz.prog (pcC b):=ah _ Im _ _
noncomputable def acq:bu:=mk (P:=Tryz.prog) [quE,chE] [(147,Tryz.f147),(148,Tryz.f148)]
theorem FM:ag Tryz.prog acq:=ah _ Im _ _
noncomputable def pcB:Code:=aE Tryz.f114
noncomputable def z64:List Int:=List.replicate 64 0
noncomputable def JL (key s x:List Int) (i:Int):St:=⟨slotsOf 120 [(6,.ptr 1 0 0),(9,.ptr 2 0 0),(12,.ptr 3 0 0),(52,.int .i64 i)],[.b [.ints .u8 32 key],.b [.ints .u8 64 z64],.b [.ints .u32 16 s],.b [.ints .u32 16 (aH 16 x)]],true⟩
section
variable (key af s x:List Int) (n i:Int)
theorem QG:(aW Tryz.prog acq 200 0 11 (atoms pcB) ⟨aO Tryz.f114.ntmps [.agg [.ints .u8 32 key],.ro false .u8 (aH 12 af),.int .i64 n],[],true⟩).bind (St.cut [6,9,12,52] 4)=
  some {JL key (Dw key af n) (Dw key af n) 0 with ob:=aa true (aa true (true&&decide (0≤n)&&decide (n≤4294967295)))}:=by kernel_rfl
theorem W9:(exec Tryz.prog (pcC true) 200 0 (inner (inner (aA 11 pcB))) (JL key s x i)).bind (fun r=>(r.2.cut [6,9,12,52] 4).map fun q=>(r.1,q))=
  some (.normal,{JL key s (dbl (aH 16 x)) (IntKind.i64.wrap (i+1)) with ob:=aa true (decide (i<10))}):=by kernel_rfl
theorem Xa:(exec Tryz.prog (pcC false) 200 0 (inner (inner (aA 11 pcB))) (JL key s x i)).bind (fun r=>(r.2.cut [6,9,12,52] 4).map fun q=>(r.1,q))=
  some (.exit 4,{JL key s x i with ob:=aa true (!decide (i<10))}):=by kernel_rfl
end
theorem uN (key af:List Int) (n:Int):(Dw key af n).length=16:=rfl
theorem QH (x:List Int) (q:Nat×Nat×Nat×Nat):(qst x q).length=x.length:=by simp [qst]
theorem ze (x:List Int):(dbl x).length=x.length:=by
 unfold dbl
 generalize UR=l
 induction l generalizing x with
 |nil=>rfl
 |cons q l ih=>rw [List.foldl_cons,ih,QH]
theorem jz (x:List Int):∀j,(iS x j).length=x.length
 |0=>rfl
 |j+1=>by rw [iS,ze,jz x j]
attribute [irreducible] dbl
theorem QI (key s:List Int) {x:List Int} (hx:x.length=16):Tr Tryz.prog none 0 (aA 11 pcB) (JL key s x 0) .normal (JL key s (iS x 10) 10):=by
 have j9:=Tr.loop (P:=Tryz.prog) (ro:=none) (k:=0) 4 (c:=aA 11 pcB) (by kernel_rfl) (fun j:Nat=>JL key s (iS x j) j) 10 (s':=JL key s (iS x 10) 10) (fun j hj=>?_) ?_
 ·exact j9
 ·have k:=W9 key s (iS x j) j
  rw [aG (show (iS x j).length=16 by rw [jz,hx]),decide_eq_true (show (j:Int)<10 by omega),wrap_i64 _ (by omega) (by omega)] at k
  refine Tr.post (Tr.cut (Ku true) 200 _ 4 (by omega) k rfl) (bq.same ?_ rfl)
  show (JL key s [] _).t=(JL key s [] _).t
  rw [show ((j:Int)+1)=((j+1:Nat):Int) by omega]
 ·exact Tr.post (Tr.cut (Ku false) 200 _ 4 (by omega) (Xa key s (iS x 10) 10) rfl) (bq.same rfl rfl)
theorem nq {key af:List Int} {n:Int} (hn:af.length=12) (h0:0≤n) (h1:n≤4294967295):ai Tryz.prog 114 [.agg [.ints .u8 32 key],.ro false .u8 af,.int .i64 n] [] (.aT [.agg [.ints .u8 64 (fq key af n)],.nl .nilIface]) []:=by
 have k:ai Tryz.prog 114 [.agg [.ints .u8 32 key],.ro false .u8 (aH 12 af),.int .i64 n] [] (.aT [.agg [.ints .u8 64 (WR (Dw key af n) (aH 16 (iS (Dw key af n) 10)))],.nl .nilIface]) []:=by
  refine ai.cu FM 200 12 0 Tryz.func114 (by simp) rfl (fun s' x h=>?_) (s:=JL key (Dw key af n) (iS (Dw key af n) 10) 10) (p:=true) ?_ rfl rfl rfl
  ·refine bf.items FM 200 11 _ 4 (by simp) (QG key af n) (by rw [decide_eq_true h0,decide_eq_true h1];rfl) (by decide) ?_
   exact bf.item 11 (by decide) (QI key _ (uN _ _ _)) h
  ·generalize Dw key af n=s
   generalize iS s 10=y
   kernel_rfl
 rw [aG hn,aG (show (iS (Dw key af n) 10).length=16 by rw [jz,uN])] at k
 rw [fq,aD]
 exact k
noncomputable def pcF:List SV→Option (SV×List Blk×Bool)
 | [.agg [.ints .u8 32 key],.ro false .u8 af,.int .i64 n]=>some (.aT [.agg [.ints .u8 64 (fq key af n)],.nl .nilIface],[],decide (af.length=12)&&decide (0≤n)&&decide (n≤4294967295))
 |_=>none
noncomputable def pcE:Entry Tryz.prog:=.val 114 _ Tryz.func114 (by decide) rfl true 0 pcF fun vs v new e=>by
 unfold pcF at e
 split at e
 ·simp only [Option.some.injEq,Prod.mk.injEq,Bool.and_eq_true,decide_eq_true_eq] at e
  obtain ⟨rfl,rfl,⟨h1,h2⟩,h3⟩:=e
  exact nq h1 h2 h3
 ·cases e
end Go.Proofs.YtibfpjeeanppjaaGreat.Cc
