/- This file proves the contract of sha's Short: the short digest of its parts side by side. Conditions: lengths that memory bears. -/
import Derived.Test.YthlnlcijnoadcaaGreatDoorDS2B
set_option linter.all false
set_option maxRecDepth 100000
namespace Go.Proofs.YthlnlcijnoadcaaGreatDoor.S2
open Go Go.Sy Sh
theorem piece_take (p:List Int) (j:Nat):(p.drop (64*j)).take 64=(p.take (64*(j+1))).drop (64*j):=by
 rw [List.drop_take,show 64*(j+1)-64*j=64 by omega]
theorem stN_take {p q:List Int} (kk s:List Int):∀j,p.take (64*j)=q.take (64*j)→stN p kk s j=stN q kk s j
 |0,_=>rfl
 |j+1,h=>by
  have h0:p.take (64*j)=q.take (64*j):=by
   have:=congrArg (List.take (64*j)) h
   rwa [List.take_take,List.take_take,Nat.min_eq_left (by omega)] at this
  simp only [stN]
  rw [stN_take kk s j h0,piece_take,piece_take,h]
theorem stN_shift (p kk s:List Int) (N:Nat):∀j,stN p kk s (N+j)=stN (p.drop (64*N)) kk (stN p kk s N) j
 |0=>rfl
 |j+1=>by
  show pieceW (stN p kk s (N+j)) ((p.drop (64*(N+j))).take 64) kk=pieceW (stN (p.drop (64*N)) kk (stN p kk s N) j) (((p.drop (64*N)).drop (64*j)).take 64) kk
  rw [stN_shift p kk s N j,List.drop_drop,show 64*N+64*j=64*(N+j) by omega]
noncomputable def dgs (xs:List Int):Blk:=dg (stN xs k32 b32 (xs.length/64)) (xs.drop (64*(xs.length/64))) xs.length
theorem dgs_add (xs b:List Int):stN (xs.drop (64*(xs.length/64))++b) k32 (stN xs k32 b32 (xs.length/64)) ((xs.drop (64*(xs.length/64))++b).length/64)=stN (xs++b) k32 b32 ((xs++b).length/64)∧
  (xs.drop (64*(xs.length/64))++b).drop (64*((xs.drop (64*(xs.length/64))++b).length/64))=(xs++b).drop (64*((xs++b).length/64)):=by
 have hN:64*(xs.length/64)≤xs.length:=by omega
 generalize hn:xs.length/64=N at*
 have e:xs.drop (64*N)++b=(xs++b).drop (64*N):=(List.drop_append_of_le_length hN).symm
 have et:stN xs k32 b32 N=stN (xs++b) k32 b32 N:=stN_take _ _ _ (by rw [List.take_append_of_le_length hN])
 have hl:((xs++b).drop (64*N)).length=(xs++b).length-64*N:=List.length_drop ..
 have hl2:xs.length≤(xs++b).length:=by simp
 have hq:(xs++b).length/64=N+((xs++b).drop (64*N)).length/64:=by rw [hl];omega
 rw [e,et, ←stN_shift,hq,List.drop_drop,show 64*N+64*(((xs++b).drop (64*N)).length/64)=64*(N+((xs++b).drop (64*N)).length/64) by omega]
 exact ⟨rfl,rfl⟩
def padT (xs:List Int):List Int:=padE xs xs.length
noncomputable def shortW (xs:List Int):List Int:=Lock (outB (stN (padT xs) k32 b32 ((padT xs).length/64)))
theorem shortW_len (xs:List Int):(shortW xs).length=32:=by rw [shortW,Lock_eq];simp [outB]
theorem shortW_by (xs:List Int):∀x∈shortW xs,0≤x∧x<256:=by
 intro x hx
 simp only [shortW,Lock_eq,outB,List.mem_map] at hx
 obtain ⟨i,_,rfl⟩:=hx
 simp only [IntKind.wrap,IntKind.signed,IntKind.bits]
 simp
 omega
theorem dgs_sum (xs:List Int):sumE1 (stN xs k32 b32 (xs.length/64)) (xs.drop (64*(xs.length/64))) xs.length=shortW xs:=by
 have hN:64*(xs.length/64)≤xs.length:=by omega
 generalize hn:xs.length/64=N at*
 have hr:(xs.drop (64*N)).length=xs.length-64*N:=List.length_drop ..
 have hk:padK (xs.drop (64*N)).length 64 56=padK xs.length 64 56:=by unfold padK;rw [hr];omega
 have e:padE (xs.drop (64*N)) xs.length=(padT xs).drop (64*N):=by
  unfold padT padE padL
  rw [hk,List.append_assoc,List.append_assoc,List.append_assoc,List.append_assoc,List.drop_append_of_le_length hN]
 have et:stN xs k32 b32 N=stN (padT xs) k32 b32 N:=stN_take _ _ _ (by
  unfold padT padE padL
  rw [List.append_assoc,List.append_assoc,List.take_append_of_le_length hN])
 have hl:((padT xs).drop (64*N)).length=(padT xs).length-64*N:=List.length_drop ..
 have hl2:xs.length≤(padT xs).length:=by unfold padT padE padL;simp only [List.length_append];omega
 have hq:(padT xs).length/64=N+((padT xs).drop (64*N)).length/64:=by rw [hl];omega
 rw [sumE1,shortW,Lock_eq,e,et, ←stN_shift,hq]
noncomputable def hC (x:Bool):Ctr:=mk (P:=Tryz.prog) [newE,addE,sumE] [] fun i=>if i=10 then some x else none
theorem hC_ok (x:Bool):CtrSound Tryz.prog (hC x):=mk_sound _ InlOK.nil _ _
noncomputable def hB:Code:=bodyOf Tryz.f119
noncomputable def hS (xss:List (List Int)) (d:Blk) (i:Int):St:=⟨slotsOf 19 [(2,.ptr 0 0 0),(3,.ptr 1 0 0),(7,.rob false xss),(8,.int .i64 xss.length),(9,.int .i64 i)],[.b [.ints .u8 32 z32],d],true⟩
section
variable (xss:List (List Int)) (st r:List Int) (n i:Int)
theorem h_head:(execL Tryz.prog (hC true) 60 0 3 (atoms hB) ⟨slots0 Tryz.f119.ntmps [.rob false xss],[],true⟩).bind (St.cut [2,3,7,8,9] 2)=some (hS xss (dg b32 [] 0) 0):=by kernel_rfl
theorem h_one:(exec Tryz.prog (hC true) 60 0 (inner (inner (nthC 3 hB))) (hS xss (dg st r n) i)).bind (fun r=>(r.2.cut [2,3,7,8,9] 2).map fun q=>(r.1,q))=
  some (.normal,{hS xss (dg (stN (r++xss.getD i.toNat []) k32 st ((r++xss.getD i.toNat []).length/64)) ((r++xss.getD i.toNat []).drop (64*((r++xss.getD i.toNat []).length/64))) (IntKind.i64.wrap (n+(xss.getD i.toNat []).length))) (IntKind.i64.wrap (i+1)) with
   ob:=andT (andT (andT (andT true (decide (i<xss.length))) (inB i xss.length)) (decide (i.toNat<xss.length))) (andT true (decide (st.length=8)&&decide (r.length+(xss.getD i.toNat []).length<274877900000)))}):=by kernel_rfl
theorem h_end:(exec Tryz.prog (hC false) 60 0 (inner (inner (nthC 3 hB))) (hS xss (dg st r n) i)).bind (fun r=>(r.2.cut [2,3,7,8,9] 2).map fun q=>(r.1,q))=
  some (.exit 0,{hS xss (dg st r n) i with ob:=andT true (!decide (i<xss.length))}):=by kernel_rfl
end
theorem flat_take {xss:List (List Int)} {j:Nat} (h:j<xss.length):(xss.take (j+1)).flatten=(xss.take j).flatten++xss.getD j []:=by
 rw [List.take_add_one,List.flatten_append,List.getD_eq_getElem?_getD,List.getElem?_eq_getElem h]
 simp
theorem flat_len (xss:List (List Int)) (j:Nat):(xss.take j).flatten.length≤xss.flatten.length:=by
 conv=>rhs;rw [←List.take_append_drop j xss,List.flatten_append,List.length_append]
 omega
theorem short_fn {xss:List (List Int)} (h1:xss.flatten.length<274877900000) (h2:xss.length≤274877906944):FnTr Tryz.prog 119 [.rob false xss] [] (.agg [.ints .u8 32 (shortW xss.flatten)]) []:=by
 have hloop:Tr Tryz.prog none 0 (nthC 3 hB) (hS xss (dgs []) 0) .normal (hS xss (dgs xss.flatten) xss.length):=by
  have key:=Tr.loop (P:=Tryz.prog) (ro:=none) (k:=0) 0 (c:=nthC 3 hB) (by kernel_rfl) (fun j:Nat=>hS xss (dgs (xss.take j).flatten) j) xss.length (s':=hS xss (dgs xss.flatten) xss.length) (fun j hj=>?_) ?_
  ·exact key
  ·generalize hx:(xss.take j).flatten=xs
   have hl:=flat_len xss (j+1)
   rw [flat_take hj,hx,List.length_append] at hl
   have k:=h_one xss (stN xs k32 b32 (xs.length/64)) (xs.drop (64*(xs.length/64))) xs.length j
   obtain ⟨e1,e2⟩:=dgs_add xs (xss.getD j [])
   rw [Int.toNat_natCast,e1,e2,wrap_i64 (_+_) (by omega) (by omega),wrap_i64 _ (by omega) (by omega),decide_eq_true (stN_len b32_len _),decide_eq_true (show (xs.drop (64*(xs.length/64))).length+(xss.getD j []).length<274877900000 by rw [List.length_drop];omega),
    decide_eq_true (show (j:Int)<xss.length by omega),inB_true (by omega) (by omega),decide_eq_true hj] at k
   refine Tr.post (Tr.cut (hC_ok true) 60 _ 2 (by omega) k rfl) (Ent.same ?_ ?_)
   ·show (hS xss (dgs []) _).t=(hS xss (dgs []) _).t
    rw [show ((j:Int)+1)=((j+1:Nat):Int) by omega]
   ·show [_,_]=[_,_]
    rw [flat_take hj,hx]
    unfold dgs
    rw [List.length_append,Int.natCast_add]
  ·have k:=h_end xss (stN xss.flatten k32 b32 (xss.flatten.length/64)) (xss.flatten.drop (64*(xss.flatten.length/64))) xss.flatten.length xss.length
   rw [List.take_length]
   exact Tr.post (Tr.cut (hC_ok false) 60 _ 2 (by omega) k (by simp [andT])) (Ent.same rfl rfl)
 rw [←dgs_sum]
 refine FnTr.restM (hC_ok true) 60 4 0 Tryz.func119 (by simp) rfl (fun s' x h=>?_) (s:=hS xss (dgs xss.flatten) xss.length)
  (p:=andT true (andT true (decide ((stN xss.flatten k32 b32 (xss.flatten.length/64)).length=8)&&decide ((xss.flatten.drop (64*(xss.flatten.length/64))).length<274877900000)))) (by kernel_rfl) ?_ rfl rfl
 ·refine TrL.items (hC_ok true) 60 3 _ 2 (by simp) (h_head xss) rfl (by decide) ?_
  exact TrL.item 3 (by decide) (Tr.pre hloop (Ent.same rfl rfl)) h
 ·rw [decide_eq_true (stN_len b32_len _),decide_eq_true (show (xss.flatten.drop (64*(xss.flatten.length/64))).length<274877900000 by rw [List.length_drop];omega)];rfl
noncomputable def shortF:List SV→Option (SV×List Blk×Bool)
 | [.rob false xss]=>some (.agg [.ints .u8 32 (shortW xss.flatten)],[],decide (xss.flatten.length<274877900000)&&decide (xss.length≤274877906944))
 |_=>none
noncomputable def shortE:Entry Tryz.prog:=.val 119 _ Tryz.func119 (by decide) rfl true 0 shortF fun vs v new e=>by
 unfold shortF at e
 split at e
 ·simp only [Option.some.injEq,Prod.mk.injEq,Bool.and_eq_true,decide_eq_true_eq] at e
  obtain ⟨rfl,rfl,h1,h2⟩:=e
  exact short_fn h1 h2
 ·cases e
end Go.Proofs.YthlnlcijnoadcaaGreatDoor.S2
