/- This file holds the texts Me, CcA, a section each. No conditions beyond those in the theorems. -/
import Derived.Test.YthlnlcijnoadcaaGreatDoorFMd
import Derived.Test.YthlnlcijnoadcaaGreatDoorChecked
import Derived.Laws.Externs
import Derived.Laws.BitsLemmas
import Derived.IntWalk
import Derived.Test.YthlnlcijnoadcaaGreatDoorFS2B
set_option linter.all false
set_option maxRecDepth 100000
section
namespace Go.Proofs.YthlnlcijnoadcaaGreatDoor.Fe
open Go Go.Sy
def inU (m:Int) (x:Int):Bool:=decide (0≤x)&&decide (x<m)
def u64 (x:Int):Bool:=inU 18446744073709551616 x
def u8 (x:Int):Bool:=inU 256 x
theorem wrap_u64 (n:Int):IntKind.u64.wrap n=n%18446744073709551616:=by simp [IntKind.wrap,IntKind.signed,IntKind.bits]
theorem wrap_u8 (n:Int):IntKind.u8.wrap n=n%256:=by simp [IntKind.wrap,IntKind.signed,IntKind.bits]
theorem wrap_i64 (n:Int) (h0: -9223372036854775808≤n) (h1:n<9223372036854775808):IntKind.i64.wrap n=n:=IntWalk.i64_in n (by omega)
theorem shr_eq (k:IntKind) (a:Int) (n:Nat) (hn:n≤k.bits):shrI k a n=a/2^n:=by
 unfold shrI
 rw [Nat.min_eq_left hn,Int.fdiv_eq_ediv_of_nonneg]
 exact_mod_cast Nat.zero_le (2^n)
theorem shl64 (a:Int) (n:Nat) (hn:n≤64):shlI .u64 a n=a*2^n%18446744073709551616:=by
 unfold shlI
 rw [show min n IntKind.u64.bits=n from Nat.min_eq_left hn,wrap_u64]
noncomputable def addS (x y c:Int):Int:=Lock (Int.ofNat ((x.toNat+y.toNat+c.toNat)%Extern.MathBitsCarry.m64))
noncomputable def addC (x y c:Int):Int:=Lock (Int.ofNat ((x.toNat+y.toNat+c.toNat)/Extern.MathBitsCarry.m64))
def carry1 (c:Int):Bool:=decide (c.toNat≤1)
noncomputable def add64F:List SV→Option (SV×Bool)
 | [.int .u64 x,.int .u64 y,.int .u64 c]=>some (.tup [.int .u64 (addS x y c),.int .u64 (addC x y c)],carry1 c)
 |_=>none
theorem ctr0:CtrSound Tryz.prog (mk (P:=Tryz.prog) [] []):=mk_sound [] InlOK.nil _ _
def mulT (x y:Int):Int:=IntKind.u64.wrap (IntKind.u64.wrap (shrI .u64 x 32*andI .u64 y 4294967295)+shrI .u64 (IntKind.u64.wrap (andI .u64 x 4294967295*andI .u64 y 4294967295)) 32)
noncomputable def mulH (x y:Int):Int:=Lock (IntKind.u64.wrap (IntKind.u64.wrap (IntKind.u64.wrap (shrI .u64 x 32*shrI .u64 y 32)+shrI .u64 (mulT x y) 32)+
 shrI .u64 (IntKind.u64.wrap (andI .u64 (mulT x y) 4294967295+IntKind.u64.wrap (andI .u64 x 4294967295*shrI .u64 y 32))) 32))
noncomputable def mulL (x y:Int):Int:=Lock (IntKind.u64.wrap (x*y))
end Go.Proofs.YthlnlcijnoadcaaGreatDoor.Fe
namespace Go.Proofs.YthlnlcijnoadcaaGreatDoor.Fe
open Go Go.Sy
theorem VE.lst (k:IntKind) (n:Nat) (l:List Int):VE (.agg [.ints k n l]) (.agg [.ints k n (lst n l)]):=fun e _ ⟨ys,h1,h2⟩=>⟨ys,(PE.lst k n l).2 e ys h1,h2⟩
abbrev w64 (n:Int):Int:=IntKind.u64.wrap n
abbrev lo51 (n:Int):Int:=andI .u64 n 2251799813685247
abbrev hi51 (n:Int):Int:=shrI .u64 n 51
def cw0 (l:List Int):Int:=w64 (l.getD 0 0+0)
def cw1 (l:List Int):Int:=w64 (l.getD 1 0+hi51 (cw0 l))
def cw2 (l:List Int):Int:=w64 (l.getD 2 0+hi51 (cw1 l))
def cw3 (l:List Int):Int:=w64 (l.getD 3 0+hi51 (cw2 l))
def cw4 (l:List Int):Int:=w64 (l.getD 4 0+hi51 (cw3 l))
def passW (l:List Int):List Int:=[w64 (lo51 (cw0 l)+w64 (19*hi51 (cw4 l))),lo51 (cw1 l),lo51 (cw2 l),lo51 (cw3 l),lo51 (cw4 l)]
noncomputable def carF (l:List Int):List Int:=Lock (passW (passW (lst 5 l)))
noncomputable def carEF:List SV→Option (SV×List Blk×Bool)
 | [.agg [.ints .u64 5 l]]=>some (.agg [.ints .u64 5 (carF l)],[],true)
 |_=>none
theorem car_fn (l:List Int):FnTr Tryz.prog 196 [.agg [.ints .u64 5 l]] [] (.agg [.ints .u64 5 (carF l)]) []:=by
 refine FnTr.conv (bs:=[.agg [.ints .u64 5 (lst 5 l)]]) (h2:=[]) (h1:=[]) (v:=.agg [.ints .u64 5 (carF l)]) ?_ ⟨VE.lst _ _ _,trivial⟩ trivial (VE.refl _) trivial
 rw [carF,Lock_eq]
 exact call0 ctr0 100 Tryz.func196 (p:=true) (by kernel_rfl) rfl rfl
noncomputable def carE:Entry Tryz.prog:=.val 196 _ Tryz.func196 (by decide) rfl false 0 carEF fun vs v new e=>by
 unfold carEF at e
 split at e
 ·cases e;exact car_fn _
 ·cases e
def addL (a b:List Int):List Int:=[w64 (a.getD 0 0+b.getD 0 0),w64 (a.getD 1 0+b.getD 1 0),w64 (a.getD 2 0+b.getD 2 0),w64 (a.getD 3 0+b.getD 3 0),w64 (a.getD 4 0+b.getD 4 0)]
noncomputable def addFe (a b:List Int):List Int:=carF (addL a b)
noncomputable def addEF:List SV→Option (SV×List Blk×Bool)
 | [.agg [.ints .u64 5 a],.agg [.ints .u64 5 b]]=>some (.agg [.ints .u64 5 (addFe a b)],[],true)
 |_=>none
theorem ctrCar:CtrSound Tryz.prog (mk [carE] []):=mk_sound _ InlOK.nil _ _
noncomputable def addE:Entry Tryz.prog:=.val 240 _ Tryz.func240 (by decide) rfl false 0 addEF fun vs v new e=>by
 unfold addEF at e
 split at e
 ·rename_i a b
  cases e
  refine FnTr.conv (bs:=[.agg [.ints .u64 5 (lst 5 a)],.agg [.ints .u64 5 (lst 5 b)]]) (h2:=[]) (h1:=[]) (v:=.agg [.ints .u64 5 (addFe a b)]) ?_ ⟨VE.lst _ _ _,VE.lst _ _ _,trivial⟩ trivial (VE.refl _) trivial
  exact call0 ctrCar 100 Tryz.func240 (p:=true) (by kernel_rfl) rfl rfl
 ·cases e
end Go.Proofs.YthlnlcijnoadcaaGreatDoor.Fe
namespace Go.Proofs.YthlnlcijnoadcaaGreatDoor.Fe
open Go Go.Sy
noncomputable def pl (s:Int×Int) (x y:Int):Int×Int:=(w64 (s.1+w64 (mulH x y+addC s.2 (mulL x y) 0)),addS s.2 (mulL x y) 0)
noncomputable def nx (s:Int×Int) (c:Int):Int:=orI .u64 (hi51 (addS s.2 c 0)) (shlI .u64 (w64 (s.1+addC s.2 c 0)) 13)
end Go.Proofs.YthlnlcijnoadcaaGreatDoor.Fe
namespace Go.Proofs.YthlnlcijnoadcaaGreatDoor.Fe
open Go Go.Sy
def ix:Nat→Int
 |0=>7
 |k+1=>IntKind.i64.wrap (ix k-1)
def t0 (a:List Int):Int:=w64 (a.getD 0 0+19)
def t1 (a:List Int):Int:=w64 (a.getD 1 0+hi51 (t0 a))
def t2 (a:List Int):Int:=w64 (a.getD 2 0+hi51 (t1 a))
def t3 (a:List Int):Int:=w64 (a.getD 3 0+hi51 (t2 a))
def t4 (a:List Int):Int:=w64 (a.getD 4 0+hi51 (t3 a))
end Go.Proofs.YthlnlcijnoadcaaGreatDoor.Fe
namespace Go.Proofs.YthlnlcijnoadcaaGreatDoor.Fe
open Go Go.Sy
section
variable (e a o:List Int) (l:Nat) (i:Int)
end
end Go.Proofs.YthlnlcijnoadcaaGreatDoor.Fe
namespace Go.Proofs.YthlnlcijnoadcaaGreatDoor.Fe
open Go Go.Sy
def e2:List Int:=235::(List.replicate 30 255++[127])
def e1:List Int:=251::(List.replicate 30 255++[31])
def e5:List Int:=253::(List.replicate 30 255++[15])
end Go.Proofs.YthlnlcijnoadcaaGreatDoor.Fe
end
section
namespace Go.Proofs.YthlnlcijnoadcaaGreatDoor.Cc
open Go Go.Sy Sh
abbrev V (n:Int):Int:=IntKind.u32.wrap n
def qr (a b c d:Int):Int×Int×Int×Int:=
 let a1:=V (a+b)
 let d1:=S2.rotN (xorI .u32 d a1) 16
 let c1:=V (c+d1)
 let b1:=S2.rotN (xorI .u32 b c1) 12
 let a2:=V (a1+b1)
 let d2:=S2.rotN (xorI .u32 d1 a2) 8
 let c2:=V (c1+d2)
 (a2,S2.rotN (xorI .u32 b1 c2) 7,c2,d2)
noncomputable def quC:Ctr:=mk (P:=Tryz.prog) [S2.rotE] []
theorem quC_ok:CtrSound Tryz.prog quC:=mk_sound _ InlOK.nil _ _
def quF:List SV→Option (SV×List Blk×Bool)
 | [.int .u32 a,.int .u32 b,.int .u32 c,.int .u32 d]=>some (.tup [.int .u32 (qr a b c d).1,.int .u32 (qr a b c d).2.1,.int .u32 (qr a b c d).2.2.1,.int .u32 (qr a b c d).2.2.2],[],true)
 |_=>none
noncomputable def quE:Entry Tryz.prog:=.val 262 _ Tryz.func262 (by decide) rfl false 0 quF fun vs v new e=>by
 unfold quF at e
 split at e
 ·cases e
  exact call0 quC_ok 60 Tryz.func262 (p:=true) (by kernel_rfl) rfl rfl
 ·cases e
noncomputable def chC:Ctr:=mk (P:=Tryz.prog) [] [] fun i=>if i=8||i=12||i=15 then some false else none
theorem chC_ok:CtrSound Tryz.prog chC:=mk_sound _ InlOK.nil _ _
def chF:List SV→Option (SV×List Blk×Bool)
 | [.ro _ .u8 l,.int .i64 n]=>some (.nl .nilIface,[],decide (l.length=12)&&decide (0≤n)&&decide (n≤4294967295))
 |_=>none
noncomputable def chE:Entry Tryz.prog:=.val 229 _ Tryz.func229 (by decide) rfl true 0 chF fun vs v new e=>by
 unfold chF at e
 split at e
 ·rename_i f l n
  simp only [Option.some.injEq,Prod.mk.injEq,Bool.and_eq_true,decide_eq_true_eq] at e
  obtain ⟨rfl,rfl,⟨h1,h2⟩,h3⟩:=e
  exact call0 chC_ok 60 Tryz.func229 (p:=andT (andT (andT true (!(l.length:Int) != 12)) (!decide (n<0))) (!decide (n>4294967295))) (by kernel_rfl) (by rw [h1,decide_eq_false (show ¬n<0 by omega),decide_eq_false (show ¬n>4294967295 by omega)];rfl) rfl
 ·cases e
def wdL (l:List Int) (i:Nat):Int:=orI .u32 (orI .u32 (orI .u32 (V (l.getD (4*i) 0)) (shlI .u32 (V (l.getD (4*i+1) 0)) 8)) (shlI .u32 (V (l.getD (4*i+2) 0)) 16)) (shlI .u32 (V (l.getD (4*i+3) 0)) 24)
def s16 (key nonce:List Int) (n:Int):List Int:=[1634760805,857760878,2036477234,1797285236]++(List.range 8).map (wdL key)++[V n]++(List.range 3).map (wdL nonce)
def qst (x:List Int) (q:Nat×Nat×Nat×Nat):List Int:=
 (((x.set q.1 (qr (x.getD q.1 0) (x.getD q.2.1 0) (x.getD q.2.2.1 0) (x.getD q.2.2.2 0)).1).set q.2.1 (qr (x.getD q.1 0) (x.getD q.2.1 0) (x.getD q.2.2.1 0) (x.getD q.2.2.2 0)).2.1).set q.2.2.1 (qr (x.getD q.1 0) (x.getD q.2.1 0) (x.getD q.2.2.1 0) (x.getD q.2.2.2 0)).2.2.1).set q.2.2.2 (qr (x.getD q.1 0) (x.getD q.2.1 0) (x.getD q.2.2.1 0) (x.getD q.2.2.2 0)).2.2.2
def qRd:List (Nat×Nat×Nat×Nat):=[(0,4,8,12),(1,5,9,13),(2,6,10,14),(3,7,11,15),(0,5,10,15),(1,6,11,12),(2,7,8,13),(3,4,9,14)]
def dbl (x:List Int):List Int:=qRd.foldl qst x
def dbls (x:List Int):Nat→List Int
 |0=>x
 |j+1=>dbl (dbls x j)
def pcO (s x:List Int):List Int:=(List.range 64).map fun i=>IntKind.u8.wrap (shrI .u32 (V (x.getD (i/4) 0+s.getD (i/4) 0)) (8*(i%4)))
noncomputable def pcW (key nonce:List Int) (n:Int):List Int:=Lock (pcO (s16 key nonce n) (dbls (s16 key nonce n) 10))
theorem inlW:InlOK Tryz.prog [(260,Tryz.f260),(261,Tryz.f261)]:=InlOK.cons Tryz.func260 (by decide) (InlOK.cons Tryz.func261 (by decide) InlOK.nil)
noncomputable def pcC (b:Bool):Ctr:=mk (P:=Tryz.prog) [quE,chE] [(260,Tryz.f260),(261,Tryz.f261)] fun i=>if i=53 then some b else none
theorem pcC_ok (b:Bool):CtrSound Tryz.prog (pcC b):=mk_sound _ inlW _ _
noncomputable def pcC0:Ctr:=mk (P:=Tryz.prog) [quE,chE] [(260,Tryz.f260),(261,Tryz.f261)]
theorem pcC0_ok:CtrSound Tryz.prog pcC0:=mk_sound _ inlW _ _
noncomputable def pcB:Code:=bodyOf Tryz.f231
noncomputable def z64:List Int:=List.replicate 64 0
noncomputable def pcS (key s x:List Int) (i:Int):St:=⟨slotsOf 120 [(6,.ptr 1 0 0),(9,.ptr 2 0 0),(12,.ptr 3 0 0),(52,.int .i64 i)],[.b [.ints .u8 32 key],.b [.ints .u8 64 z64],.b [.ints .u32 16 s],.b [.ints .u32 16 (lst 16 x)]],true⟩
section
variable (key nonce s x:List Int) (n i:Int)
theorem pc_head:(execL Tryz.prog pcC0 200 0 11 (atoms pcB) ⟨slots0 Tryz.f231.ntmps [.agg [.ints .u8 32 key],.ro false .u8 (lst 12 nonce),.int .i64 n],[],true⟩).bind (St.cut [6,9,12,52] 4)=
  some {pcS key (s16 key nonce n) (s16 key nonce n) 0 with ob:=andT true (andT true (true&&decide (0≤n)&&decide (n≤4294967295)))}:=by kernel_rfl
theorem pc_rnd:(exec Tryz.prog (pcC true) 200 0 (inner (inner (nthC 11 pcB))) (pcS key s x i)).bind (fun r=>(r.2.cut [6,9,12,52] 4).map fun q=>(r.1,q))=
  some (.normal,{pcS key s (dbl (lst 16 x)) (IntKind.i64.wrap (i+1)) with ob:=andT true (decide (i<10))}):=by kernel_rfl
theorem pc_end:(exec Tryz.prog (pcC false) 200 0 (inner (inner (nthC 11 pcB))) (pcS key s x i)).bind (fun r=>(r.2.cut [6,9,12,52] 4).map fun q=>(r.1,q))=
  some (.exit 4,{pcS key s x i with ob:=andT true (!decide (i<10))}):=by kernel_rfl
end
theorem s16_len (key nonce:List Int) (n:Int):(s16 key nonce n).length=16:=rfl
theorem qst_len (x:List Int) (q:Nat×Nat×Nat×Nat):(qst x q).length=x.length:=by simp [qst]
theorem dbl_len (x:List Int):(dbl x).length=x.length:=by
 unfold dbl
 generalize qRd=l
 induction l generalizing x with
 |nil=>rfl
 |cons q l ih=>rw [List.foldl_cons,ih,qst_len]
theorem dbls_len (x:List Int):∀j,(dbls x j).length=x.length
 |0=>rfl
 |j+1=>by rw [dbls,dbl_len,dbls_len x j]
attribute [irreducible] dbl
theorem pc_loop (key s:List Int) {x:List Int} (hx:x.length=16):Tr Tryz.prog none 0 (nthC 11 pcB) (pcS key s x 0) .normal (pcS key s (dbls x 10) 10):=by
 have key0:=Tr.loop (P:=Tryz.prog) (ro:=none) (k:=0) 4 (c:=nthC 11 pcB) (by kernel_rfl) (fun j:Nat=>pcS key s (dbls x j) j) 10 (s':=pcS key s (dbls x 10) 10) (fun j hj=>?_) ?_
 ·exact key0
 ·have k:=pc_rnd key s (dbls x j) j
  rw [lst_eq (show (dbls x j).length=16 by rw [dbls_len,hx]),decide_eq_true (show (j:Int)<10 by omega),wrap_i64 _ (by omega) (by omega)] at k
  refine Tr.post (Tr.cut (pcC_ok true) 200 _ 4 (by omega) k rfl) (Ent.same ?_ rfl)
  show (pcS key s [] _).t=(pcS key s [] _).t
  rw [show ((j:Int)+1)=((j+1:Nat):Int) by omega]
 ·exact Tr.post (Tr.cut (pcC_ok false) 200 _ 4 (by omega) (pc_end key s (dbls x 10) 10) rfl) (Ent.same rfl rfl)
theorem piece_fn {key nonce:List Int} {n:Int} (hn:nonce.length=12) (h0:0≤n) (h1:n≤4294967295):FnTr Tryz.prog 231 [.agg [.ints .u8 32 key],.ro false .u8 nonce,.int .i64 n] [] (.tup [.agg [.ints .u8 64 (pcW key nonce n)],.nl .nilIface]) []:=by
 have k:FnTr Tryz.prog 231 [.agg [.ints .u8 32 key],.ro false .u8 (lst 12 nonce),.int .i64 n] [] (.tup [.agg [.ints .u8 64 (pcO (s16 key nonce n) (lst 16 (dbls (s16 key nonce n) 10)))],.nl .nilIface]) []:=by
  refine FnTr.restM pcC0_ok 200 12 0 Tryz.func231 (by simp) rfl (fun s' x h=>?_) (s:=pcS key (s16 key nonce n) (dbls (s16 key nonce n) 10) 10) (p:=true) ?_ rfl rfl rfl
  ·refine TrL.items pcC0_ok 200 11 _ 4 (by simp) (pc_head key nonce n) (by rw [decide_eq_true h0,decide_eq_true h1];rfl) (by decide) ?_
   exact TrL.item 11 (by decide) (pc_loop key _ (s16_len _ _ _)) h
  ·generalize s16 key nonce n=s
   generalize dbls s 10=y
   kernel_rfl
 rw [lst_eq hn,lst_eq (show (dbls (s16 key nonce n) 10).length=16 by rw [dbls_len,s16_len])] at k
 rw [pcW,Lock_eq]
 exact k
end Go.Proofs.YthlnlcijnoadcaaGreatDoor.Cc
end
