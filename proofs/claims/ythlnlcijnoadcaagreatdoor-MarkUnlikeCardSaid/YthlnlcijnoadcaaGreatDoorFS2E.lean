/- This file holds the texts S2C, S2D, S2E, a section each. No conditions beyond those in the theorems. -/
import Derived.Test.YthlnlcijnoadcaaGreatDoorFS2B
import Derived.Test.YthlnlcijnoadcaaGreatDoorFShK
set_option linter.all false
set_option maxRecDepth 100000
section
namespace Go.Proofs.YthlnlcijnoadcaaGreatDoor.S2
open Go Go.Sy Sh
theorem piece_take (p:List Int) (j:Nat):(p.drop (64*j)).take 64=(p.take (64*(j+1))).drop (64*j):=by
 rw [List.drop_take,show 64*(j+1)-64*j=64 by omega]
theorem stN_take {p q:List Int} (kk s:List Int):∀j,p.take (64*j)=q.take (64*j)→stN p kk s j=stN q kk s j
 |0,_=>rfl
 |j+1,h=>by
  have h0:p.take (64*j)=q.take (64*j):=by
   have:=congrArg (List.take (64*j)) h
   rwa [List.take_take,List.take_take,Nat.min_eq_left (by omega)] at this
  simp only [stN]
  rw [stN_take kk s j h0,piece_take,piece_take,h]
theorem stN_shift (p kk s:List Int) (N:Nat):∀j,stN p kk s (N+j)=stN (p.drop (64*N)) kk (stN p kk s N) j
 |0=>rfl
 |j+1=>by
  show pieceW (stN p kk s (N+j)) ((p.drop (64*(N+j))).take 64) kk=pieceW (stN (p.drop (64*N)) kk (stN p kk s N) j) (((p.drop (64*N)).drop (64*j)).take 64) kk
  rw [stN_shift p kk s N j,List.drop_drop,show 64*N+64*j=64*(N+j) by omega]
noncomputable def dgs (xs:List Int):Blk:=dg (stN xs k32 b32 (xs.length/64)) (xs.drop (64*(xs.length/64))) xs.length
theorem dgs_add (xs b:List Int):stN (xs.drop (64*(xs.length/64))++b) k32 (stN xs k32 b32 (xs.length/64)) ((xs.drop (64*(xs.length/64))++b).length/64)=stN (xs++b) k32 b32 ((xs++b).length/64)∧
  (xs.drop (64*(xs.length/64))++b).drop (64*((xs.drop (64*(xs.length/64))++b).length/64))=(xs++b).drop (64*((xs++b).length/64)):=by
 have hN:64*(xs.length/64)≤xs.length:=by omega
 generalize hn:xs.length/64=N at*
 have e:xs.drop (64*N)++b=(xs++b).drop (64*N):=(List.drop_append_of_le_length hN).symm
 have et:stN xs k32 b32 N=stN (xs++b) k32 b32 N:=stN_take _ _ _ (by rw [List.take_append_of_le_length hN])
 have hl:((xs++b).drop (64*N)).length=(xs++b).length-64*N:=List.length_drop ..
 have hl2:xs.length≤(xs++b).length:=by simp
 have hq:(xs++b).length/64=N+((xs++b).drop (64*N)).length/64:=by rw [hl];omega
 rw [e,et, ←stN_shift,hq,List.drop_drop,show 64*N+64*(((xs++b).drop (64*N)).length/64)=64*(N+((xs++b).drop (64*N)).length/64) by omega]
 exact ⟨rfl,rfl⟩
def padT (xs:List Int):List Int:=padE xs xs.length
noncomputable def shortW (xs:List Int):List Int:=Lock (outB (stN (padT xs) k32 b32 ((padT xs).length/64)))
theorem shortW_len (xs:List Int):(shortW xs).length=32:=by rw [shortW,Lock_eq];simp [outB]
theorem shortW_by (xs:List Int):∀x∈shortW xs,0≤x∧x<256:=by
 intro x hx
 simp only [shortW,Lock_eq,outB,List.mem_map] at hx
 obtain ⟨i,_,rfl⟩:=hx
 simp only [IntKind.wrap,IntKind.signed,IntKind.bits]
 simp
 omega
theorem dgs_sum (xs:List Int):sumE1 (stN xs k32 b32 (xs.length/64)) (xs.drop (64*(xs.length/64))) xs.length=shortW xs:=by
 have hN:64*(xs.length/64)≤xs.length:=by omega
 generalize hn:xs.length/64=N at*
 have hr:(xs.drop (64*N)).length=xs.length-64*N:=List.length_drop ..
 have hk:padK (xs.drop (64*N)).length 64 56=padK xs.length 64 56:=by unfold padK;rw [hr];omega
 have e:padE (xs.drop (64*N)) xs.length=(padT xs).drop (64*N):=by
  unfold padT padE padL
  rw [hk,List.append_assoc,List.append_assoc,List.append_assoc,List.append_assoc,List.drop_append_of_le_length hN]
 have et:stN xs k32 b32 N=stN (padT xs) k32 b32 N:=stN_take _ _ _ (by
  unfold padT padE padL
  rw [List.append_assoc,List.append_assoc,List.take_append_of_le_length hN])
 have hl:((padT xs).drop (64*N)).length=(padT xs).length-64*N:=List.length_drop ..
 have hl2:xs.length≤(padT xs).length:=by unfold padT padE padL;simp only [List.length_append];omega
 have hq:(padT xs).length/64=N+((padT xs).drop (64*N)).length/64:=by rw [hl];omega
 rw [sumE1,shortW,Lock_eq,e,et, ←stN_shift,hq]
noncomputable def hC (x:Bool):Ctr:=mk (P:=Tryz.prog) [newE,addE,sumE] [] fun i=>if i=10 then some x else none
theorem hC_ok (x:Bool):CtrSound Tryz.prog (hC x):=mk_sound _ InlOK.nil _ _
noncomputable def hB:Code:=bodyOf Tryz.f119
noncomputable def hS (xss:List (List Int)) (d:Blk) (i:Int):St:=⟨slotsOf 19 [(2,.ptr 0 0 0),(3,.ptr 1 0 0),(7,.rob false xss),(8,.int .i64 xss.length),(9,.int .i64 i)],[.b [.ints .u8 32 z32],d],true⟩
section
variable (xss:List (List Int)) (st r:List Int) (n i:Int)
theorem h_head:(execL Tryz.prog (hC true) 60 0 3 (atoms hB) ⟨slots0 Tryz.f119.ntmps [.rob false xss],[],true⟩).bind (St.cut [2,3,7,8,9] 2)=some (hS xss (dg b32 [] 0) 0):=by kernel_rfl
theorem h_one:(exec Tryz.prog (hC true) 60 0 (inner (inner (nthC 3 hB))) (hS xss (dg st r n) i)).bind (fun r=>(r.2.cut [2,3,7,8,9] 2).map fun q=>(r.1,q))=
  some (.normal,{hS xss (dg (stN (r++xss.getD i.toNat []) k32 st ((r++xss.getD i.toNat []).length/64)) ((r++xss.getD i.toNat []).drop (64*((r++xss.getD i.toNat []).length/64))) (IntKind.i64.wrap (n+(xss.getD i.toNat []).length))) (IntKind.i64.wrap (i+1)) with
   ob:=andT (andT (andT (andT true (decide (i<xss.length))) (inB i xss.length)) (decide (i.toNat<xss.length))) (andT true (decide (st.length=8)&&decide (r.length+(xss.getD i.toNat []).length<274877900000)))}):=by kernel_rfl
theorem h_end:(exec Tryz.prog (hC false) 60 0 (inner (inner (nthC 3 hB))) (hS xss (dg st r n) i)).bind (fun r=>(r.2.cut [2,3,7,8,9] 2).map fun q=>(r.1,q))=
  some (.exit 0,{hS xss (dg st r n) i with ob:=andT true (!decide (i<xss.length))}):=by kernel_rfl
end
theorem flat_take {xss:List (List Int)} {j:Nat} (h:j<xss.length):(xss.take (j+1)).flatten=(xss.take j).flatten++xss.getD j []:=by
 rw [List.take_add_one,List.flatten_append,List.getD_eq_getElem?_getD,List.getElem?_eq_getElem h]
 simp
theorem flat_len (xss:List (List Int)) (j:Nat):(xss.take j).flatten.length≤xss.flatten.length:=by
 conv=>rhs;rw [←List.take_append_drop j xss,List.flatten_append,List.length_append]
 omega
theorem short_fn {xss:List (List Int)} (h1:xss.flatten.length<274877900000) (h2:xss.length≤274877906944):FnTr Tryz.prog 119 [.rob false xss] [] (.agg [.ints .u8 32 (shortW xss.flatten)]) []:=by
 have hloop:Tr Tryz.prog none 0 (nthC 3 hB) (hS xss (dgs []) 0) .normal (hS xss (dgs xss.flatten) xss.length):=by
  have key:=Tr.loop (P:=Tryz.prog) (ro:=none) (k:=0) 0 (c:=nthC 3 hB) (by kernel_rfl) (fun j:Nat=>hS xss (dgs (xss.take j).flatten) j) xss.length (s':=hS xss (dgs xss.flatten) xss.length) (fun j hj=>?_) ?_
  ·exact key
  ·generalize hx:(xss.take j).flatten=xs
   have hl:=flat_len xss (j+1)
   rw [flat_take hj,hx,List.length_append] at hl
   have k:=h_one xss (stN xs k32 b32 (xs.length/64)) (xs.drop (64*(xs.length/64))) xs.length j
   obtain ⟨e1,e2⟩:=dgs_add xs (xss.getD j [])
   rw [Int.toNat_natCast,e1,e2,wrap_i64 (_+_) (by omega) (by omega),wrap_i64 _ (by omega) (by omega),decide_eq_true (stN_len b32_len _),decide_eq_true (show (xs.drop (64*(xs.length/64))).length+(xss.getD j []).length<274877900000 by rw [List.length_drop];omega),
    decide_eq_true (show (j:Int)<xss.length by omega),inB_true (by omega) (by omega),decide_eq_true hj] at k
   refine Tr.post (Tr.cut (hC_ok true) 60 _ 2 (by omega) k rfl) (Ent.same ?_ ?_)
   ·show (hS xss (dgs []) _).t=(hS xss (dgs []) _).t
    rw [show ((j:Int)+1)=((j+1:Nat):Int) by omega]
   ·show [_,_]=[_,_]
    rw [flat_take hj,hx]
    unfold dgs
    rw [List.length_append,Int.natCast_add]
  ·have k:=h_end xss (stN xss.flatten k32 b32 (xss.flatten.length/64)) (xss.flatten.drop (64*(xss.flatten.length/64))) xss.flatten.length xss.length
   rw [List.take_length]
   exact Tr.post (Tr.cut (hC_ok false) 60 _ 2 (by omega) k (by simp [andT])) (Ent.same rfl rfl)
 rw [←dgs_sum]
 refine FnTr.restM (hC_ok true) 60 4 0 Tryz.func119 (by simp) rfl (fun s' x h=>?_) (s:=hS xss (dgs xss.flatten) xss.length)
  (p:=andT true (andT true (decide ((stN xss.flatten k32 b32 (xss.flatten.length/64)).length=8)&&decide ((xss.flatten.drop (64*(xss.flatten.length/64))).length<274877900000)))) (by kernel_rfl) ?_ rfl rfl
 ·refine TrL.items (hC_ok true) 60 3 _ 2 (by simp) (h_head xss) rfl (by decide) ?_
  exact TrL.item 3 (by decide) (Tr.pre hloop (Ent.same rfl rfl)) h
 ·rw [decide_eq_true (stN_len b32_len _),decide_eq_true (show (xss.flatten.drop (64*(xss.flatten.length/64))).length<274877900000 by rw [List.length_drop];omega)];rfl
noncomputable def shortF:List SV→Option (SV×List Blk×Bool)
 | [.rob false xss]=>some (.agg [.ints .u8 32 (shortW xss.flatten)],[],decide (xss.flatten.length<274877900000)&&decide (xss.length≤274877906944))
 |_=>none
noncomputable def shortE:Entry Tryz.prog:=.val 119 _ Tryz.func119 (by decide) rfl true 0 shortF fun vs v new e=>by
 unfold shortF at e
 split at e
 ·simp only [Option.some.injEq,Prod.mk.injEq,Bool.and_eq_true,decide_eq_true_eq] at e
  obtain ⟨rfl,rfl,h1,h2⟩:=e
  exact short_fn h1 h2
 ·cases e
end Go.Proofs.YthlnlcijnoadcaaGreatDoor.S2
end
section
namespace Go.Proofs.YthlnlcijnoadcaaGreatDoor.Q2
open Go Go.Sy Sh
abbrev V (n:Int):Int:=IntKind.u32.wrap n
def rotQ (x n:Int):Int:=V (shrI .u32 x n.toNat+shlI .u32 x (Sh.W (32-n)).toNat)
def rotQF:List SV→Option (SV×List Blk×Bool)
 | [.int .u32 x,.int .u64 n]=>some (.int .u32 (rotQ x n),[],decide (0≤n))
 |_=>none
noncomputable def rotQE:Entry Tryz.prog:=.val 125 _ Tryz.func125 (by decide) rfl false 0 rotQF fun vs v new e=>by
 unfold rotQF at e
 split at e
 ·rename_i x n
  simp only [Option.some.injEq,Prod.mk.injEq,decide_eq_true_eq] at e
  obtain ⟨rfl,rfl,h⟩:=e
  exact call0 ctr0 60 Tryz.func125 (p:=andT (andT true (decide (0≤n))) (W0 (32-n))) (by kernel_rfl) (by rw [W0_true,decide_eq_true h];rfl) rfl
 ·cases e
noncomputable def sqC:Ctr:=mk (P:=Tryz.prog) [longsRE] []
theorem sqC_ok:CtrSound Tryz.prog sqC:=mk_sound _ InlOK.nil _ _
theorem shortsR_fn:FnTr Tryz.prog 123 [] [] (.ro true .u32 S2.k32) []:=
 FnTr.frozen (N:=64) (ex:=false) (wh:=true) (FnTr.sel [1] (callM sqC_ok 200 Tryz.func123 2 (by simp) (v:=.sl 1 0 0 1 64 64 false true) (h1:=[.b [.ints .u32 1 [1116352408]],.b [.ints .u32 64 S2.k32]]) (p:=true) (by kernel_rfl) rfl rfl rfl) (by kernel_rfl)) (by kernel_rfl)
noncomputable def shortsRF:List SV→Option (SV×List Blk×Bool)
 | []=>some (.ro true .u32 S2.k32,[],true)
 |_=>none
noncomputable def shortsRE:Entry Tryz.prog:=.val 123 _ Tryz.func123 (by decide) rfl false 0 shortsRF fun vs v new e=>by
 unfold shortsRF at e
 split at e
 ·cases e;exact shortsR_fn
 ·cases e
noncomputable def rB:Code:=bodyOf Tryz.f79
noncomputable def rO:Code:=inner (inner (nthC 8 rB))
noncomputable def r3:Code:=inner (nthC 2 rO)
noncomputable def rC (a b c d:Bool):Ctr:=mk (P:=Tryz.prog) [shortsRE,beginRE,rotQE,padRE] [] fun i=>if i=42 then some a else if i=46 then some b else if i=86 then some c else if i=133 then some d else if i=130 then some true else if i=84 then some true else none
theorem rC_ok (a b c d:Bool):CtrSound Tryz.prog (rC a b c d):=mk_sound _ InlOK.nil _ _
def chQ (e f g:Int):Int:=xorI .u32 (andI .u32 e f) (andI .u32 (V (4294967295-e)) g)
def tnQ (x a b c:Int):Int:=xorI .u32 (xorI .u32 (rotQ x a) (rotQ x b)) (rotQ x c)
def t1Q (s:List Int) (k w:Int):Int:=V (V (V (V (s.getD 7 0+tnQ (s.getD 4 0) 6 11 25)+chQ (s.getD 4 0) (s.getD 5 0) (s.getD 6 0))+k)+w)
def t2Q (s:List Int):Int:=V (tnQ (s.getD 0 0) 2 13 22+S2.mjW (s.getD 0 0) (s.getD 1 0) (s.getD 2 0))
def rndQ (s:List Int) (k w:Int):List Int:=[V (t1Q s k w+t2Q s),s.getD 0 0,s.getD 1 0,s.getD 2 0,V (s.getD 3 0+t1Q s k w),s.getD 4 0,s.getD 5 0,s.getD 6 0]
def nxQ (y x a b:Int):Int:=V (V (V (xorI .u32 (xorI .u32 (rotQ y 17) (rotQ y 19)) (shrI .u32 y 10)+a)+xorI .u32 (xorI .u32 (rotQ x 7) (rotQ x 18)) (shrI .u32 x 3))+b)
def ix (a i:Int):Int:=IntKind.i64.wrap (a+IntKind.i64.wrap (4*i))
def wq (p:List Int) (q:Int):Int:=V (V (V (V (V (p.getD q.toNat 0)*16777216)+V (V (p.getD (IntKind.i64.wrap (q+1)).toNat 0)*65536))+V (V (p.getD (IntKind.i64.wrap (q+2)).toNat 0)*256))+V (p.getD (IntKind.i64.wrap (q+3)).toNat 0))
def nxJ (w:List Int) (i:Int):Int:=nxQ (w.getD (0+(IntKind.i64.wrap (i-2)).toNat) 0) (w.getD (0+(IntKind.i64.wrap (i-15)).toNat) 0) (w.getD (0+(IntKind.i64.wrap (i-7)).toNat) 0) (w.getD (0+(IntKind.i64.wrap (i-16)).toNat) 0)
def nxP (i:Int) (n _l:Nat):Bool:=andT (andT (andT (andT (andT (andT (andT (andT (andT (andT true (decide (i<64))) (inB (IntKind.i64.wrap (i-15)) n)) (decide (0+(IntKind.i64.wrap (i-15)).toNat<n))) (inB (IntKind.i64.wrap (i-2)) n)) (decide (0+(IntKind.i64.wrap (i-2)).toNat<n)))
 (inB (IntKind.i64.wrap (i-7)) n)) (decide (0+(IntKind.i64.wrap (i-7)).toNat<n))) (inB (IntKind.i64.wrap (i-16)) n)) (decide (0+(IntKind.i64.wrap (i-16)).toNat<n))) (apO _l n)
noncomputable def sO (p kk h:List Int) (i:Int):St:=⟨slotsOf 252 [(2,.ptr 0 0 0),(4,.ptr 1 0 0),(6,.ro true .u32 kk),(7,.ro true .u8 p),(8,.int .i64 i)],[.b [.ints .u8 32 S2.z32],.b [.ints .u32 8 (lst 8 h)]],true⟩
noncomputable def sN (p kk h:List Int) (a:Int):St:=⟨slotsOf 252 [(2,.ptr 0 0 0),(4,.ptr 1 0 0),(6,.ro true .u32 kk),(7,.ro true .u8 p),(8,.int .i64 a),(9,.nl (.slice none 0 0)),(10,.int .i64 0)],[.b [.ints .u8 32 S2.z32],.b [.ints .u32 8 (lst 8 h)]],true⟩
noncomputable def sA (p kk h:List Int) (a:Int) (n:Nat) (w:List Int) (i:Int):St:=⟨slotsOf 252 [(2,.ptr 0 0 0),(4,.ptr 1 0 0),(6,.ro true .u32 kk),(7,.ro true .u8 p),(8,.int .i64 a),(9,.sl 2 0 0 1 n n false true),(10,.int .i64 i)],[.b [.ints .u8 32 S2.z32],.b [.ints .u32 8 (lst 8 h)],.b [.ints .u32 n w]],true⟩
noncomputable def sB (p kk h:List Int) (a:Int) (n:Nat) (w:List Int) (i:Int):St:=⟨slotsOf 252 [(2,.ptr 0 0 0),(4,.ptr 1 0 0),(6,.ro true .u32 kk),(7,.ro true .u8 p),(8,.int .i64 a),(9,.sl 2 0 0 1 n n false true),(12,.int .i64 i)],[.b [.ints .u8 32 S2.z32],.b [.ints .u32 8 (lst 8 h)],.b [.ints .u32 n w]],true⟩
noncomputable def sC (p kk h:List Int) (a:Int) (n:Nat) (w s:List Int) (i:Int):St:=⟨slotsOf 252 [(2,.ptr 0 0 0),(4,.ptr 1 0 0),(6,.ro true .u32 kk),(7,.ro true .u8 p),(8,.int .i64 a),(9,.sl 2 0 0 1 n n false true),(15,.ptr 3 0 0),(16,.int .i64 i)],[.b [.ints .u8 32 S2.z32],.b [.ints .u32 8 (lst 8 h)],.b [.ints .u32 n w],.b [.ints .u32 8 (lst 8 s)]],true⟩
noncomputable def sD (p kk h:List Int) (a:Int) (n:Nat) (w s:List Int):St:=⟨slotsOf 252 [(2,.ptr 0 0 0),(4,.ptr 1 0 0),(6,.ro true .u32 kk),(7,.ro true .u8 p),(8,.int .i64 a),(15,.ptr 3 0 0),(20,.int .i64 0)],[.b [.ints .u8 32 S2.z32],.b [.ints .u32 8 (lst 8 h)],.b [.ints .u32 n w],.b [.ints .u32 8 (lst 8 s)]],true⟩
def oq (p:List Int) (q i:Int):Bool:=andT (andT (andT (andT (andT (andT (andT (andT (andT true (decide (i<16))) (inB q p.length)) (decide (q.toNat<p.length))) (inB (IntKind.i64.wrap (q+1)) p.length)) (decide ((IntKind.i64.wrap (q+1)).toNat<p.length)))
 (inB (IntKind.i64.wrap (q+2)) p.length)) (decide ((IntKind.i64.wrap (q+2)).toNat<p.length))) (inB (IntKind.i64.wrap (q+3)) p.length)) (decide ((IntKind.i64.wrap (q+3)).toNat<p.length))
section
variable (p kk h w s:List Int) (n:Nat) (a i:Int)
theorem ro_test:(execL Tryz.prog (rC true true true true) 60 0 2 (atoms rO) (sO p kk h a)).bind (St.cut [2,4,6,7,8] 2)=some {sO p kk h a with ob:=andT true (decide (a<p.length))}:=by kernel_rfl
theorem ro_next:(exec Tryz.prog (rC true true true true) 60 0 (nthC 3 rO) (sO p kk h a)).bind (fun r=>(r.2.cut [2,4,6,7,8] 2).map fun q=>(r.1,q))=some (.normal,sO p kk h (IntKind.i64.wrap (a+64))):=by kernel_rfl
theorem ro_end:(exec Tryz.prog (rC false true true true) 60 0 rO (sO p kk h a)).bind (fun r=>(r.2.cut [2,4,6,7,8] 2).map fun q=>(r.1,q))=some (.exit 2,{sO p kk h a with ob:=andT true (!decide (a<p.length))}):=by kernel_rfl
theorem r3_head:(execL Tryz.prog (rC true true true true) 60 0 2 (atoms r3) (sO p kk h a)).bind (St.cut [2,4,6,7,8,9,10] 2)=some (sN p kk h a):=by kernel_rfl
theorem r4_one:(exec Tryz.prog (rC true true true true) 60 0 (inner (inner (nthC 2 r3))) (sA p kk h a n w i)).bind (fun r=>(r.2.cut [2,4,6,7,8,9,10] 3).map fun q=>(r.1,q))=
  some (.normal,{sA p kk h a (n+1) (w++[wq p (ix a i)]) (IntKind.i64.wrap (i+1)) with ob:=andT (oq p (ix a i) i) (apO w.length n)}):=by kernel_rfl
theorem r4_end:(exec Tryz.prog (rC true false true true) 60 0 (inner (inner (nthC 2 r3))) (sA p kk h a n w i)).bind (fun r=>(r.2.cut [2,4,6,7,8,9,10] 3).map fun q=>(r.1,q))=
  some (.exit 4,{sA p kk h a n w i with ob:=andT true (!decide (i<16))}):=by kernel_rfl
theorem r8_head:(execL Tryz.prog (rC true true true true) 60 0 1 ((atoms r3).drop 3) (sA p kk h a n w i)).bind (St.cut [2,4,6,7,8,9,12] 3)=some (sB p kk h a n w 16):=by kernel_rfl
theorem r8_one:(exec Tryz.prog (rC true true true true) 60 0 (inner (inner (nthC 4 r3))) (sB p kk h a n w i)).bind (fun r=>(r.2.cut [2,4,6,7,8,9,12] 3).map fun q=>(r.1,q))=
  some (.normal,{sB p kk h a (n+1) (w++[nxJ w i]) (IntKind.i64.wrap (i+1)) with ob:=nxP i n w.length}):=by kernel_rfl
theorem r8_end:(exec Tryz.prog (rC true true false true) 60 0 (inner (inner (nthC 4 r3))) (sB p kk h a n w i)).bind (fun r=>(r.2.cut [2,4,6,7,8,9,12] 3).map fun q=>(r.1,q))=
  some (.exit 6,{sB p kk h a n w i with ob:=andT true (!decide (i<64))}):=by kernel_rfl
theorem r10_head:(execL Tryz.prog (rC true true true true) 60 0 2 ((atoms r3).drop 5) (sB p kk h a n w i)).bind (St.cut [2,4,6,7,8,9,15,16] 4)=some (sC p kk h a n w h 0):=by kernel_rfl
theorem r10_one:(exec Tryz.prog (rC true true true true) 60 0 (inner (inner (nthC 7 r3))) (sC p kk h a n w s i)).bind (fun r=>(r.2.cut [2,4,6,7,8,9,15,16] 4).map fun q=>(r.1,q))=
  some (.normal,{sC p kk h a n w (rndQ (lst 8 s) (kk.getD i.toNat 0) (w.getD (0+i.toNat) 0)) (IntKind.i64.wrap (i+1)) with ob:=andT (andT (andT (andT (andT true (decide (i<64))) (inB i kk.length)) (decide (i.toNat<kk.length))) (inB i n)) (decide (0+i.toNat<n))}):=by kernel_rfl
theorem r10_end:(exec Tryz.prog (rC true true true false) 60 0 (inner (inner (nthC 7 r3))) (sC p kk h a n w s i)).bind (fun r=>(r.2.cut [2,4,6,7,8,9,15,16] 4).map fun q=>(r.1,q))=
  some (.exit 8,{sC p kk h a n w s i with ob:=andT true (!decide (i<64))}):=by kernel_rfl
theorem r14_head:(execL Tryz.prog (rC true true true true) 60 0 1 ((atoms r3).drop 8) (sC p kk h a n w s i)).bind (St.cut [2,4,6,7,8,15,20] 4)=some (sD p kk h a n w s):=by kernel_rfl
theorem r14_all:(exec Tryz.prog (rC true true true true) 60 0 (nthC 9 r3) (sD p kk h a n w s)).bind (fun r=>(r.2.cut [2,4,6,7,8] 2).map fun q=>(r.1,q))=some (.normal,sO p kk (S2.sumW (lst 8 h) (lst 8 s)) a):=by kernel_rfl
end
end Go.Proofs.YthlnlcijnoadcaaGreatDoor.Q2
end
section
namespace Go.Proofs.YthlnlcijnoadcaaGreatDoor.Q2
open Go Go.Sy Sh
def wA (p:List Int) (a:Int):Nat→List Int
 |0=>[]
 |j+1=>wA p a j++[wq p (ix a j)]
def wG (w:List Int):Nat→List Int
 |0=>w
 |j+1=>wG w j++[nxJ (wG w j) (16+j)]
def rnQ (s k w:List Int):Nat→List Int
 |0=>s
 |j+1=>rndQ (lst 8 (rnQ s k w j)) (k.getD j 0) (w.getD j 0)
def pieceQ (p kk h:List Int) (a:Int):List Int:=S2.sumW (lst 8 h) (lst 8 (rnQ h kk (wG (wA p a 16) 48) 64))
def hN (p kk h:List Int):Nat→List Int
 |0=>h
 |j+1=>pieceQ p kk (hN p kk h j) (64*j:Nat)
theorem wA_len (p:List Int) (a:Int):∀j,(wA p a j).length=j
 |0=>rfl
 |j+1=>by rw [wA,List.length_append,wA_len p a j];rfl
theorem wG_len (w:List Int):∀j,(wG w j).length=w.length+j
 |0=>rfl
 |j+1=>by rw [wG,List.length_append,wG_len w j];rfl
theorem ix_eq {a i:Nat} (ha:a<10000000000000) (hi:i<16):ix a i=((a+4*i:Nat):Int):=by
 unfold ix
 rw [wrap_i64 (4*(i:Int)) (by omega) (by omega),wrap_i64 _ (by omega) (by omega)]
 omega
theorem oq_true {p:List Int} {a i:Nat} (ha:a<10000000000000) (hp:a+64≤p.length) (hi:i<16):oq p (ix a i) i=true:=by
 rw [ix_eq ha hi]
 unfold oq
 rw [wrap_i64 _ (by omega) (by omega),wrap_i64 _ (by omega) (by omega),wrap_i64 _ (by omega) (by omega),inB_true (by omega) (by omega),inB_true (by omega) (by omega),inB_true (by omega) (by omega),inB_true (by omega) (by omega)]
 simp only [andT_iff,decide_eq_true_eq,true_and,and_true]
 omega
theorem nxP_true {j:Nat} (hj:j<48):nxP (16+j) (16+j) (16+j)=true:=by
 unfold nxP
 rw [wrap_i64 _ (by omega) (by omega),wrap_i64 _ (by omega) (by omega),wrap_i64 _ (by omega) (by omega),wrap_i64 _ (by omega) (by omega),apO_true (by omega)]
 simp only [andT_iff,decide_eq_true_eq,true_and,and_true]
 refine ⟨⟨⟨⟨⟨⟨⟨⟨?_,inB_true (by omega) (by omega)⟩,?_⟩,inB_true (by omega) (by omega)⟩,?_⟩,inB_true (by omega) (by omega)⟩,?_⟩,inB_true (by omega) (by omega)⟩,?_⟩<;>omega
section
variable (p kk h:List Int) {a:Nat} (ha:a<10000000000000) (hp:a+64≤p.length) (hk:kk.length=64)
include ha hp in
theorem r_loop4:Tr Tryz.prog none 0 (nthC 2 r3) (sA p kk h a 0 [] 0) .normal (sA p kk h a 16 (wA p a 16) 16):=by
 have key:=Tr.loop (P:=Tryz.prog) (ro:=none) (k:=0) 4 (c:=nthC 2 r3) (by kernel_rfl) (fun j:Nat=>sA p kk h a j (wA p a j) j) 16 (s':=sA p kk h a 16 (wA p a 16) 16) (fun j hj=>?_) ?_
 ·exact key
 ·have k:=r4_one p kk h (wA p a j) j a j
  rw [oq_true ha hp hj,wA_len,apO_true (by omega),wrap_i64 _ (by omega) (by omega)] at k
  refine Tr.post (Tr.cut (rC_ok true true true true) 60 _ 3 (by omega) k rfl) (Ent.same ?_ rfl)
  show (sA _ _ h _ _ [] _).t=(sA _ _ h _ _ [] _).t
  rw [show ((j:Int)+1)=((j+1:Nat):Int) by omega]
 ·exact Tr.post (Tr.cut (rC_ok true false true true) 60 _ 3 (by omega) (r4_end p kk h (wA p a 16) 16 a 16) rfl) (Ent.same rfl rfl)
theorem r_loop8 {w:List Int} (hw:w.length=16) (a:Int):Tr Tryz.prog none 0 (nthC 4 r3) (sB p kk h a 16 w 16) .normal (sB p kk h a 64 (wG w 48) 64):=by
 have key:=Tr.loop (P:=Tryz.prog) (ro:=none) (k:=0) 6 (c:=nthC 4 r3) (by kernel_rfl) (fun j:Nat=>sB p kk h a (16+j) (wG w j) (16+j)) 48 (s':=sB p kk h a 64 (wG w 48) 64) (fun j hj=>?_) ?_
 ·exact key
 ·have k:=r8_one p kk h (wG w j) (16+j) a (16+j)
  rw [wG_len,hw,nxP_true hj,wrap_i64 _ (by omega) (by omega)] at k
  refine Tr.post (Tr.cut (rC_ok true true true true) 60 _ 3 (by omega) k rfl) (Ent.same ?_ rfl)
  show (sB _ _ h _ _ [] _).t=(sB _ _ h _ _ [] _).t
  rw [show ((16:Int)+(j:Int)+1)=16+((j+1:Nat):Int) by omega,show 16+j+1=16+(j+1) by omega]
 ·exact Tr.post (Tr.cut (rC_ok true true false true) 60 _ 3 (by omega) (r8_end p kk h (wG w 48) 64 a 64) rfl) (Ent.same rfl rfl)
include hk in
theorem r_loop10 (w:List Int) (a:Int):Tr Tryz.prog none 0 (nthC 7 r3) (sC p kk h a 64 w h 0) .normal (sC p kk h a 64 w (rnQ h kk w 64) 64):=by
 have key:=Tr.loop (P:=Tryz.prog) (ro:=none) (k:=0) 8 (c:=nthC 7 r3) (by kernel_rfl) (fun j:Nat=>sC p kk h a 64 w (rnQ h kk w j) j) 64 (s':=sC p kk h a 64 w (rnQ h kk w 64) 64) (fun j hj=>?_) ?_
 ·exact key
 ·have k:=r10_one p kk h w (rnQ h kk w j) 64 a j
  rw [hk,wrap_i64 _ (by omega) (by omega),show 0+(j:Int).toNat=j by omega,show (j:Int).toNat=j by omega] at k
  refine Tr.post (Tr.cut (rC_ok true true true true) 60 _ 4 (by omega) k ?_) (Ent.same ?_ rfl)
  ·simp only [andT_iff,decide_eq_true_eq,true_and]
   exact ⟨⟨⟨⟨by omega,inB_true (by omega) (by omega)⟩,by omega⟩,inB_true (by omega) (by omega)⟩,by omega⟩
  ·show (sC _ _ h _ _ [] [] _).t=(sC _ _ h _ _ [] [] _).t
   rw [show ((j:Int)+1)=((j+1:Nat):Int) by omega]
 ·exact Tr.post (Tr.cut (rC_ok true true true false) 60 _ 4 (by omega) (r10_end p kk h w (rnQ h kk w 64) 64 a 64) rfl) (Ent.same rfl rfl)
theorem r_nil (a:Int):Ent 0 (sN p kk h a) (sA p kk h a 0 [] 0):=
 (Ent.nothing (k:=0) (t:=(sN p kk h a).t) (h:=(sN p kk h a).h) (o:=true) (o':=true) 9 .u32 false true (by kernel_rfl)).trans (Ent.same (by kernel_rfl) (by kernel_rfl))
include ha hp hk in
theorem r_body:Tr Tryz.prog none 0 r3 (sO p kk h a) .normal (sO p kk (pieceQ p kk h a) a):=by
 refine Tr.of_atoms ?_
 refine TrL.items (rC_ok true true true true) 60 2 _ 2 (by omega) (r3_head p kk h a) rfl (by decide) ?_
 refine TrL.pre (s1:=sA p kk h a 0 [] 0) ?_ (r_nil p kk h a) (by decide)
 refine TrL.item 2 (by decide) (r_loop4 p kk h ha hp) ?_
 refine TrL.items (rC_ok true true true true) 60 1 _ 3 (by omega) (r8_head p kk h (wA p a 16) 16 a 16) rfl (by decide) ?_
 refine TrL.item 4 (by decide) (r_loop8 p kk h (wA_len p a 16) a) ?_
 refine TrL.items (rC_ok true true true true) 60 2 _ 4 (by omega) (r10_head p kk h (wG (wA p a 16) 48) 64 a 64) rfl (by decide) ?_
 refine TrL.item 7 (by decide) (r_loop10 p kk h hk (wG (wA p a 16) 48) a) ?_
 refine TrL.items (rC_ok true true true true) 60 1 _ 4 (by omega) (r14_head p kk h (wG (wA p a 16) 48) (rnQ h kk (wG (wA p a 16) 48) 64) 64 a 64) rfl (by decide) ?_
 exact TrL.item 9 (by decide) (Tr.cut (rC_ok true true true true) 60 _ 2 (by omega) (r14_all p kk h (wG (wA p a 16) 48) (rnQ h kk (wG (wA p a 16) 48) 64) 64 a) rfl) ⟨rfl,rfl⟩
theorem r3_block:nthC 2 rO= .block 3 r3:=by kernel_rfl
include ha hp hk in
theorem r_round:Tr Tryz.prog none 0 rO (sO p kk h a) .normal (sO p kk (pieceQ p kk h a) (a+64:Nat)):=by
 refine Tr.of_atoms ?_
 refine TrL.items (rC_ok true true true true) 60 2 _ 2 (by omega) (ro_test p kk h a) ?_ (by decide) ?_
 ·simp only [andT_iff,decide_eq_true_eq,true_and];omega
 refine TrL.item 2 (by decide) (s1:=sO p kk (pieceQ p kk h a) a) ?_ ?_
 ·rw [r3_block]
  exact Tr.block_pass (Tr.pre (r_body p kk h ha hp hk) (Ent.same rfl rfl)) (by simp)
 ·have k:=ro_next p kk (pieceQ p kk h a) a
  rw [wrap_i64 _ (by omega) (by omega)] at k
  refine TrL.item 3 (by decide) (Tr.post (Tr.cut (rC_ok true true true true) 60 _ 2 (by omega) k rfl) (Ent.same ?_ rfl)) ⟨rfl,rfl⟩
  show (sO _ _ h _).t=(sO _ _ h _).t
  rw [show ((a:Int)+64)=((a+64:Nat):Int) by omega]
end
theorem r_loop {p kk:List Int} (h:List Int) {N:Nat} (hp:p.length=64*N) (hk:kk.length=64) (hb:N<10000000000):Tr Tryz.prog none 0 (nthC 8 rB) (sO p kk h 0) .normal (sO p kk (hN p kk h N) (64*N:Nat)):=by
 have key:=Tr.loop (P:=Tryz.prog) (ro:=none) (k:=0) 2 (c:=nthC 8 rB) (by kernel_rfl) (fun j:Nat=>sO p kk (hN p kk h j) (64*j:Nat)) N (s':=sO p kk (hN p kk h N) (64*N:Nat)) (fun j hj=>?_) ?_
 ·exact key
 ·exact r_round p kk (hN p kk h j) (a:=64*j) (by omega) (by omega) hk
 ·exact Tr.post (Tr.cut (rC_ok false true true true) 60 _ 2 (by omega) (ro_end p kk (hN p kk h N) (64*N:Nat)) (by rw [hp];simp [andT])) (Ent.same rfl rfl)
theorem padQ8_len (xs:List Int):(padQ8 xs).length=64*((padQ8 xs).length/64):=by
 have h:=(padK_mod (len:=xs.length) (show 56<64 by omega)).1
 have hl:(padQ8 xs).length=xs.length+1+padK xs.length 64 56+8:=by unfold padQ8;rw [List.length_append,padL_len];rfl
 rw [hl];omega
noncomputable def shortQ (xs:List Int):List Int:=Lock (S2.outB (lst 8 (hN (padQ8 xs) S2.k32 S2.b32 ((padQ8 xs).length/64))))
theorem k32_len:S2.k32.length=64:=by kernel_rfl
theorem rl_head (xs:List Int):(execL Tryz.prog (rC true true true true) 60 0 8 (atoms rB) ⟨slots0 Tryz.f79.ntmps [.ro false .u8 xs],[],true⟩).bind (St.cut [2,4,6,7,8] 2)=
  some {sO (padQ8 xs) S2.k32 S2.b32 0 with ob:=andT true (andT true (decide (xs.length<274877900000)))}:=by kernel_rfl
theorem shortDR_fn {xs:List Int} (h1:xs.length<274877900000):FnTr Tryz.prog 79 [.ro false .u8 xs] [] (.agg [.ints .u8 32 (shortQ xs)]) []:=by
 have hp:=padQ8_len xs
 generalize hn:(padQ8 xs).length/64=N at hp
 have hb:N<10000000000:=by
  have hK:padK xs.length 64 56<64:=Nat.mod_lt _ (by omega)
  have hl:(padQ8 xs).length=xs.length+1+padK xs.length 64 56+8:=by unfold padQ8;rw [List.length_append,padL_len];rfl
  omega
 rw [shortQ,Lock_eq,hn]
 refine FnTr.restM (rC_ok true true true true) 400 9 0 Tryz.func79 (by simp) rfl (fun s' x h=>?_) (s:=sO (padQ8 xs) S2.k32 (hN (padQ8 xs) S2.k32 S2.b32 N) (64*N:Nat)) (p:=true) (by kernel_rfl) rfl rfl rfl
 refine TrL.items (rC_ok true true true true) 60 8 _ 2 (by simp) (rl_head xs) (by rw [decide_eq_true h1];rfl) (by decide) ?_
 exact TrL.item 8 (by decide) (Tr.pre (r_loop S2.b32 hp k32_len hb) (Ent.same rfl rfl)) h
noncomputable def shortDRF:List SV→Option (SV×List Blk×Bool)
 | [.ro false .u8 xs]=>some (.agg [.ints .u8 32 (shortQ xs)],[],decide (xs.length<274877900000))
 |_=>none
noncomputable def shortDRE:Entry Tryz.prog:=.val 79 _ Tryz.func79 (by decide) rfl true 0 shortDRF fun vs v new e=>by
 unfold shortDRF at e
 split at e
 ·simp only [Option.some.injEq,Prod.mk.injEq,decide_eq_true_eq] at e
  obtain ⟨rfl,rfl,h1⟩:=e
  exact shortDR_fn h1
 ·cases e
end Go.Proofs.YthlnlcijnoadcaaGreatDoor.Q2
end
