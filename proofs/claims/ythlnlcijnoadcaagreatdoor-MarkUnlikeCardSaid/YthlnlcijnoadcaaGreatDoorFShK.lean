/- This file holds the texts ShI, ShJ, ShK, a section each. No conditions beyond those in the theorems. -/
import Derived.Test.YthlnlcijnoadcaaGreatDoorFShH
set_option linter.all false
set_option maxRecDepth 100000
section
namespace Go.Sy
open Go
variable {P:Program}
theorem Ent.nothing {k:Nat} {t:List (Option SV)} {h:List Blk} {o o':Bool} (i:Nat) (K:IntKind) (ex wh:Bool) (hi:t[i]? =some (some (.nl (.slice none 0 0)))):
  Ent k ⟨t,h,o⟩ ⟨t.set i (some (.sl h.length 0 0 1 0 0 ex wh)),h++[.b [.ints K 0 []]],o'⟩:=fun B e w t' _ hl R=>⟨e,rfl,⟨by simpa using hl.1,fun j v v' a c=>by
  rw [List.getElem?_set] at a
  split at a
  ·rename_i q
   subst q
   split at a
   ·simp only [Option.some.injEq] at a
    subst a
    have h1:v'= .slice none 0 0:=hl.2 _ _ v' hi c
    exact .inl ⟨rfl,rfl,none,h1⟩
   ·cases a
  ·exact hl.2 j v v' a c⟩,by
  have:=R.nothing (j:=h.length) (ps:=[.ints K 0 []]) (.inl rfl) rfl
  unfold placeH at this
  rw [if_pos rfl] at this
  exact this⟩
end Go.Sy
namespace Go.Proofs.YthlnlcijnoadcaaGreatDoor.Sh
open Go Go.Sy
def intsOf2:Option (SV×List Blk×Bool)→List Int
 |some (_,[.b [.ints _ _ l]],_)=>l
 |_=>[]
theorem longsR_fn:FnTr Tryz.prog 169 [] [] (.ro true .u64 kL) []:=
 FnTr.frozen (N:=80) (ex:=true) (wh:=true) (FnTr.of_callS ctr0 Tryz.func169 (n:=60) (by kernel_rfl)) (by kernel_rfl)
theorem beginR_fn:FnTr Tryz.prog 122 [] [] (.ro true .u64 bL) []:=
 FnTr.frozen (N:=8) (ex:=true) (wh:=true) (FnTr.of_callS ctr0 Tryz.func122 (n:=60) (by kernel_rfl)) (by kernel_rfl)
noncomputable def longsRF:List SV→Option (SV×List Blk×Bool)
 | []=>some (.ro true .u64 kL,[],true)
 |_=>none
noncomputable def longsRE:Entry Tryz.prog:=.val 169 _ Tryz.func169 (by decide) rfl false 0 longsRF fun vs v new e=>by
 unfold longsRF at e
 split at e
 ·cases e;exact longsR_fn
 ·cases e
noncomputable def beginRF:List SV→Option (SV×List Blk×Bool)
 | []=>some (.ro true .u64 bL,[],true)
 |_=>none
noncomputable def beginRE:Entry Tryz.prog:=.val 122 _ Tryz.func122 (by decide) rfl false 0 beginRF fun vs v new e=>by
 unfold beginRF at e
 split at e
 ·cases e;exact beginR_fn
 ·cases e
end Go.Proofs.YthlnlcijnoadcaaGreatDoor.Sh
end
section
namespace Go.Proofs.YthlnlcijnoadcaaGreatDoor.Sh
open Go Go.Sy
noncomputable def qB:Code:=bodyOf Tryz.f124
noncomputable def qC (b:Bool):Ctr:=mk (P:=Tryz.prog) [] [] fun i=>if i=23 then some b else none
theorem qC_ok (b:Bool):CtrSound Tryz.prog (qC b):=mk_sound _ InlOK.nil _ _
noncomputable def qS (m:Nat) (l xs:List Int) (pc sz:Int):St:=⟨slotsOf 62 [(0,.ro false .u8 xs),(1,.int .i64 pc),(2,.int .i64 sz),(7,.sl 0 0 0 1 m m false true)],[.b [.ints .u8 m l]],true⟩
section
variable (m:Nat) (l xs:List Int) (pc sz:Int)
theorem qa_head:(execL Tryz.prog (qC true) 60 0 2 (atoms qB) ⟨slots0 Tryz.f124.ntmps [.ro false .u8 xs,.int .i64 pc,.int .i64 sz],[],true⟩).bind (St.cut [0,1,2,7] 1)=
  some {qS (0+xs.length+1) (xs++[128]) xs pc sz with ob:=andT (andT true (andT true (decide (0+xs.length≤2^38)))) (apO xs.length (0+xs.length))}:=by kernel_rfl
theorem qa_one:(exec Tryz.prog (qC true) 60 0 (inner (inner (nthC 2 qB))) (qS m l xs pc sz)).bind (fun r=>(r.2.cut [0,1,2,7] 1).map fun q=>(r.1,q))=
  some (.normal,{qS (m+1) (l++[0]) xs pc sz with ob:=andT (andT (andT true (pc != 0)) ((m:Int).tmod pc != IntKind.i64.wrap (pc-sz))) (apO l.length m)}):=by kernel_rfl
theorem qa_end:(exec Tryz.prog (qC false) 60 0 (inner (inner (nthC 2 qB))) (qS m l xs pc sz)).bind (fun r=>(r.2.cut [0,1,2,7] 1).map fun q=>(r.1,q))=
  some (.exit 0,{qS m l xs pc sz with ob:=andT (andT true (pc != 0)) (!((m:Int).tmod pc != IntKind.i64.wrap (pc-sz)))}):=by kernel_rfl
end
theorem qa_loop {xs:List Int} {pc sz q:Nat} (hq:q+sz=pc) (hsz:0<sz) (hpc:pc<1000) (hx:xs.length<274877900000):
  Tr Tryz.prog none 0 (nthC 2 qB) (qS (xs.length+1) (xs++[128]) xs pc sz) .normal (qS (xs.length+1+padK xs.length pc q) (padL xs pc q) xs pc sz):=by
 obtain ⟨k1,k2⟩:=padK_mod (len:=xs.length) (show q<pc by omega)
 have hK:padK xs.length pc q<pc:=Nat.mod_lt _ (by omega)
 have hne:(((pc:Nat):Int) != 0)=true:=bne_iff_ne.2 (by omega)
 have hw:IntKind.i64.wrap ((pc:Int)-(sz:Int))=((q:Nat):Int):=by rw [wrap_i64 _ (by omega) (by omega)];omega
 have hm:∀j:Nat,((xs.length+1+j:Nat):Int).tmod (pc:Int)=(((xs.length+1+j)%pc:Nat):Int):=fun j=>by
  rw [Int.tmod_eq_emod_of_nonneg (by omega),Int.natCast_emod]
 have key:=Tr.loop (P:=Tryz.prog) (ro:=none) (k:=0) 0 (c:=nthC 2 qB) (by kernel_rfl) (fun j:Nat=>qS (xs.length+1+j) (xs++[128]++List.replicate j 0) xs pc sz) (padK xs.length pc q) (s':=qS (xs.length+1+padK xs.length pc q) (padL xs pc q) xs pc sz) (fun j hj=>?_) ?_
 ·refine Tr.pre key (Ent.same rfl ?_)
  show [_]=[_]
  simp
 ·have k:=qa_one (xs.length+1+j) (xs++[128]++List.replicate j 0) xs pc sz
  have hl:(xs++[128]++List.replicate j 0).length=xs.length+1+j:=by simp;omega
  rw [hne,hm,hw,hl,apO_true (by omega),bne_iff_ne.2 (show (((xs.length+1+j)%pc:Nat):Int)≠((q:Nat):Int) from fun h=>k2 j hj (by omega))] at k
  refine Tr.post (Tr.cut (qC_ok true) 60 _ 1 (by omega) k rfl) (Ent.same rfl ?_)
  show [_]=[_]
  rw [List.replicate_succ', ←List.append_assoc];rfl
 ·have k:=qa_end (xs.length+1+padK xs.length pc q) (padL xs pc q) xs pc sz
  rw [hne,hm,hw,k1] at k
  exact Tr.post (Tr.cut (qC_ok false) 60 _ 1 (by omega) k (by simp [andT])) (Ent.same rfl rfl)
def dQ (n:Int):Nat→Int
 |0=>IntKind.i64.wrap (n.tdiv 32)
 |i+1=>IntKind.i64.wrap ((dQ n i).tdiv 256)
def lowQ (n:Int):Nat→Int
 |0=>IntKind.u8.wrap (IntKind.i64.wrap (n.tmod 32*8))
 |i+1=>IntKind.u8.wrap ((dQ n i).tmod 256)
def qL (l:List Int) (n:Int) (sz:Nat):Nat→List Int
 |0=>l
 |i+1=>qL l n sz i++[lowQ n (sz-1-i)]
def qO (l:List Int) (n:Int) (sz m:Nat):Nat→Bool
 |0=>true
 |i+1=>andT (qO l n sz m i) (apO (qL l n sz i).length (m+i))
theorem qL_len (l:List Int) (n:Int) (sz:Nat):∀i,(qL l n sz i).length=l.length+i
 |0=>rfl
 |i+1=>by rw [qL,List.length_append,qL_len l n sz i];rfl
theorem qO_true {l:List Int} (n:Int) (sz:Nat) {m:Nat} (h:l.length=m) (hm:m<274877901000):∀i,i<1000→qO l n sz m i=true
 |0,_=>rfl
 |i+1,hi=>by rw [qO,qO_true n sz h hm i (by omega),qL_len,h,apO_true (by omega)];rfl
theorem qL_eq (l:List Int) (n:Int) (sz:Nat):∀i,qL l n sz i=l++(List.range i).map fun j=>lowQ n (sz-1-j)
 |0=>by simp [qL]
 |i+1=>by rw [qL,qL_eq l n sz i,List.range_succ,List.map_append,List.append_assoc];rfl
def endQ (n:Int) (sz:Nat):List Int:=(List.range sz).map fun j=>lowQ n (sz-1-j)
theorem padR_fn {xs:List Int} (hx:xs.length<274877900000):FnTr Tryz.prog 124 [.ro false .u8 xs,.int .i64 128,.int .i64 16] [] (.ro true .u8 (padL xs 128 112++endQ xs.length 16)) []:=by
 have hK:padK xs.length 128 112<128:=Nat.mod_lt _ (by omega)
 have hl:=padL_len xs 128 112
 have hq:=qL_eq (padL xs 128 112) xs.length 16 16
 show FnTr Tryz.prog 124 [.ro false .u8 xs,.int .i64 128,.int .i64 16] [] (.ro true .u8 (padL xs 128 112++(List.range 16).map fun j=>lowQ xs.length (16-1-j))) []
 rw [←hq]
 refine FnTr.frozen (N:=xs.length+1+padK xs.length 128 112+16) (ex:=false) (wh:=true) ?_ (by rw [qL_len,hl])
 refine FnTr.restM (qC_ok false) 60 3 1 Tryz.func124 (by simp) rfl (fun s' x h=>?_) (s:=qS (xs.length+1+padK xs.length 128 112) (padL xs 128 112) xs 128 16)
  (p:=qO (padL xs 128 112) xs.length 16 (xs.length+1+padK xs.length 128 112) 16) (by kernel_rfl) (qO_true _ _ hl (by omega) _ (by omega)) rfl rfl
 have hh:=qa_head xs 128 16
 rw [Nat.zero_add] at hh
 refine TrL.items (qC_ok true) 60 2 _ 1 (by simp) hh (by rw [apO_true (by omega),decide_eq_true (by omega)];rfl) (by decide) ?_
 exact TrL.item 2 (by decide) (Tr.pre (qa_loop (pc:=128) (sz:=16) (q:=112) rfl (by decide) (by decide) hx) (Ent.same rfl rfl)) h
theorem padR_fn8 {xs:List Int} (hx:xs.length<274877900000):FnTr Tryz.prog 124 [.ro false .u8 xs,.int .i64 64,.int .i64 8] [] (.ro true .u8 (padL xs 64 56++endQ xs.length 8)) []:=by
 have hK:padK xs.length 64 56<64:=Nat.mod_lt _ (by omega)
 have hl:=padL_len xs 64 56
 have hq:=qL_eq (padL xs 64 56) xs.length 8 8
 show FnTr Tryz.prog 124 [.ro false .u8 xs,.int .i64 64,.int .i64 8] [] (.ro true .u8 (padL xs 64 56++(List.range 8).map fun j=>lowQ xs.length (8-1-j))) []
 rw [←hq]
 refine FnTr.frozen (N:=xs.length+1+padK xs.length 64 56+8) (ex:=false) (wh:=true) ?_ (by rw [qL_len,hl])
 refine FnTr.restM (qC_ok false) 60 3 1 Tryz.func124 (by simp) rfl (fun s' x h=>?_) (s:=qS (xs.length+1+padK xs.length 64 56) (padL xs 64 56) xs 64 8)
  (p:=qO (padL xs 64 56) xs.length 8 (xs.length+1+padK xs.length 64 56) 8) (by kernel_rfl) (qO_true _ _ hl (by omega) _ (by omega)) rfl rfl
 have hh:=qa_head xs 64 8
 rw [Nat.zero_add] at hh
 refine TrL.items (qC_ok true) 60 2 _ 1 (by simp) hh (by rw [apO_true (by omega),decide_eq_true (by omega)];rfl) (by decide) ?_
 exact TrL.item 2 (by decide) (Tr.pre (qa_loop (pc:=64) (sz:=8) (q:=56) rfl (by decide) (by decide) hx) (Ent.same rfl rfl)) h
end Go.Proofs.YthlnlcijnoadcaaGreatDoor.Sh
end
section
namespace Go.Proofs.YthlnlcijnoadcaaGreatDoor.Sh
open Go Go.Sy
def padQ (xs:List Int):List Int:=padL xs 128 112++endQ xs.length 16
def padQ8 (xs:List Int):List Int:=padL xs 64 56++endQ xs.length 8
def padRF:List SV→Option (SV×List Blk×Bool)
 | [.ro false .u8 xs,.int .i64 pc,.int .i64 sz]=>bif pc==128&&sz==16 then some (.ro true .u8 (padQ xs),[],decide (xs.length<274877900000)) else bif pc==64&&sz==8 then some (.ro true .u8 (padQ8 xs),[],decide (xs.length<274877900000)) else none
 |_=>none
noncomputable def padRE:Entry Tryz.prog:=.val 124 _ Tryz.func124 (by decide) rfl true 0 padRF fun vs v new e=>by
 unfold padRF at e
 split at e
 ·rename_i xs pc sz
  by_cases h1:(pc==128&&sz==16)=true
  ·rw [h1] at e
   simp only [Bool.and_eq_true,beq_iff_eq] at h1
   obtain ⟨rfl,rfl⟩:=h1
   simp only [cond_true,Option.some.injEq,Prod.mk.injEq,decide_eq_true_eq] at e
   obtain ⟨rfl,rfl,h⟩:=e
   exact padR_fn h
  ·rw [Bool.not_eq_true] at h1
   rw [h1] at e
   by_cases h2:(pc==64&&sz==8)=true
   ·rw [h2] at e
    simp only [Bool.and_eq_true,beq_iff_eq] at h2
    obtain ⟨rfl,rfl⟩:=h2
    simp only [cond_true,cond_false,Option.some.injEq,Prod.mk.injEq,decide_eq_true_eq] at e
    obtain ⟨rfl,rfl,h⟩:=e
    exact padR_fn8 h
   ·rw [Bool.not_eq_true] at h2
    rw [h2] at e
    cases e
 ·cases e
end Go.Proofs.YthlnlcijnoadcaaGreatDoor.Sh
end
