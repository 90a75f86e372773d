/- This file holds the texts ShJ, ShK, a section each. No conditions beyond those in the theorems. -/
import Derived.Test.YtibfpjeeanppjaaGreatUShI
set_option linter.all false
set_option maxRecDepth 100000
section
namespace Go.Proofs.YtibfpjeeanppjaaGreat.Sh
open Go Go.Sy
noncomputable def qB:Code:=aH Tryz.f122
noncomputable def qC (b:Bool):bK:=mk (P:=Tryz.prog) [] [] fun i=>if i=23 then some b else none
theorem xd (b:Bool):ag Tryz.prog (qC b):=ai _ aF.nil _ _
noncomputable def qS (m:Nat) (l xs:List Int) (pc sz:Int):St:=⟨slotsOf 62 [(0,.ro false .u8 xs),(1,.int .i64 pc),(2,.int .i64 sz),(7,.sl 0 0 0 1 m m false true)],[.b [.ints .u8 m l]],true⟩
section
variable (m:Nat) (l xs:List Int) (pc sz:Int)
theorem Fy:(az Tryz.prog (qC true) 60 0 2 (atoms qB) ⟨aT Tryz.f122.ntmps [.ro false .u8 xs,.int .i64 pc,.int .i64 sz],[],true⟩).bind (St.cut [0,1,2,7] 1)=
  some {qS (0+xs.length+1) (xs++[128]) xs pc sz with ob:=aa (aa true (aa true (decide (0+xs.length≤2^38)))) (tK xs.length (0+xs.length))}:=by kernel_rfl
theorem X3:(exec Tryz.prog (qC true) 60 0 (inner (inner (ak 2 qB))) (qS m l xs pc sz)).bind (fun r=>(r.2.cut [0,1,2,7] 1).map fun q=>(r.1,q))=
  some (.normal,{qS (m+1) (l++[0]) xs pc sz with ob:=aa (aa (aa true (pc != 0)) ((m:Int).tmod pc != IntKind.i64.wrap (pc-sz))) (tK l.length m)}):=by kernel_rfl
theorem X4:(exec Tryz.prog (qC false) 60 0 (inner (inner (ak 2 qB))) (qS m l xs pc sz)).bind (fun r=>(r.2.cut [0,1,2,7] 1).map fun q=>(r.1,q))=
  some (.exit 0,{qS m l xs pc sz with ob:=aa (aa true (pc != 0)) (!((m:Int).tmod pc != IntKind.i64.wrap (pc-sz)))}):=by kernel_rfl
end
theorem Fz {xs:List Int} {pc sz q:Nat} (hq:q+sz=pc) (hsz:0<sz) (hpc:pc<1000) (hx:xs.length<274877900000):
  Tr Tryz.prog none 0 (ak 2 qB) (qS (xs.length+1) (xs++[128]) xs pc sz) .normal (qS (xs.length+1+cR xs.length pc q) (eB xs pc q) xs pc sz):=by
 obtain ⟨k1,k2⟩:=qz (len:=xs.length) (show q<pc by omega)
 have hK:cR xs.length pc q<pc:=Nat.mod_lt _ (by omega)
 have hne:(((pc:Nat):Int) != 0)=true:=bne_iff_ne.2 (by omega)
 have hw:IntKind.i64.wrap ((pc:Int)-(sz:Int))=((q:Nat):Int):=by rw [wrap_i64 _ (by omega) (by omega)];omega
 have hm:∀j:Nat,((xs.length+1+j:Nat):Int).tmod (pc:Int)=(((xs.length+1+j)%pc:Nat):Int):=fun j=>by
  rw [Int.tmod_eq_emod_of_nonneg (by omega),Int.natCast_emod]
 have key:=Tr.loop (P:=Tryz.prog) (ro:=none) (k:=0) 0 (c:=ak 2 qB) (by kernel_rfl) (fun j:Nat=>qS (xs.length+1+j) (xs++[128]++List.replicate j 0) xs pc sz) (cR xs.length pc q) (s':=qS (xs.length+1+cR xs.length pc q) (eB xs pc q) xs pc sz) (fun j hj=>?_) ?_
 ·refine Tr.pre key (aU.same rfl ?_)
  show [_]=[_]
  simp
 ·have k:=X3 (xs.length+1+j) (xs++[128]++List.replicate j 0) xs pc sz
  have hl:(xs++[128]++List.replicate j 0).length=xs.length+1+j:=by simp;omega
  rw [hne,hm,hw,hl,cr (by omega),bne_iff_ne.2 (show (((xs.length+1+j)%pc:Nat):Int)≠((q:Nat):Int) from fun h=>k2 j hj (by omega))] at k
  refine Tr.post (Tr.cut (xd true) 60 _ 1 (by omega) k rfl) (aU.same rfl ?_)
  show [_]=[_]
  rw [List.replicate_succ', ←List.append_assoc];rfl
 ·have k:=X4 (xs.length+1+cR xs.length pc q) (eB xs pc q) xs pc sz
  rw [hne,hm,hw,k1] at k
  exact Tr.post (Tr.cut (xd false) 60 _ 1 (by omega) k (by simp [aa])) (aU.same rfl rfl)
def dQ (n:Int):Nat→Int
 |0=>IntKind.i64.wrap (n.tdiv 32)
 |i+1=>IntKind.i64.wrap ((dQ n i).tdiv 256)
def ng (n:Int):Nat→Int
 |0=>IntKind.u8.wrap (IntKind.i64.wrap (n.tmod 32*8))
 |i+1=>IntKind.u8.wrap ((dQ n i).tmod 256)
def qL (l:List Int) (n:Int) (sz:Nat):Nat→List Int
 |0=>l
 |i+1=>qL l n sz i++[ng n (sz-1-i)]
def qO (l:List Int) (n:Int) (sz m:Nat):Nat→Bool
 |0=>true
 |i+1=>aa (qO l n sz m i) (tK (qL l n sz i).length (m+i))
theorem y6 (l:List Int) (n:Int) (sz:Nat):∀i,(qL l n sz i).length=l.length+i
 |0=>rfl
 |i+1=>by rw [qL,List.length_append,y6 l n sz i];rfl
theorem nq {l:List Int} (n:Int) (sz:Nat) {m:Nat} (h:l.length=m) (hm:m<274877901000):∀i,i<1000→qO l n sz m i=true
 |0,_=>rfl
 |i+1,hi=>by rw [qO,nq n sz h hm i (by omega),y6,h,cr (by omega)];rfl
theorem Nd (l:List Int) (n:Int) (sz:Nat):∀i,qL l n sz i=l++(List.range i).map fun j=>ng n (sz-1-j)
 |0=>by simp [qL]
 |i+1=>by rw [qL,Nd l n sz i,List.range_succ,List.map_append,List.append_assoc];rfl
def GU (n:Int) (sz:Nat):List Int:=(List.range sz).map fun j=>ng n (sz-1-j)
theorem RB {xs:List Int} (hx:xs.length<274877900000):aj Tryz.prog 122 [.ro false .u8 xs,.int .i64 128,.int .i64 16] [] (.ro true .u8 (eB xs 128 112++GU xs.length 16)) []:=by
 have hK:cR xs.length 128 112<128:=Nat.mod_lt _ (by omega)
 have hl:=g9 xs 128 112
 have hq:=Nd (eB xs 128 112) xs.length 16 16
 show aj Tryz.prog 122 [.ro false .u8 xs,.int .i64 128,.int .i64 16] [] (.ro true .u8 (eB xs 128 112++(List.range 16).map fun j=>ng xs.length (16-1-j))) []
 rw [←hq]
 refine aj.frozen (N:=xs.length+1+cR xs.length 128 112+16) (ex:=false) (wh:=true) ?_ (by rw [y6,hl])
 refine aj.cg (xd false) 60 3 1 Tryz.func122 (by simp) rfl (fun s' x h=>?_) (s:=qS (xs.length+1+cR xs.length 128 112) (eB xs 128 112) xs 128 16)
  (p:=qO (eB xs 128 112) xs.length 16 (xs.length+1+cR xs.length 128 112) 16) (by kernel_rfl) (nq _ _ hl (by omega) _ (by omega)) rfl rfl
 have hh:=Fy xs 128 16
 rw [Nat.zero_add] at hh
 refine aG.items (xd true) 60 2 _ 1 (by simp) hh (by rw [cr (by omega),decide_eq_true (by omega)];rfl) (by decide) ?_
 exact aG.item 2 (by decide) (Tr.pre (Fz (pc:=128) (sz:=16) (q:=112) rfl (by decide) (by decide) hx) (aU.same rfl rfl)) h
theorem Nf {xs:List Int} (hx:xs.length<274877900000):aj Tryz.prog 122 [.ro false .u8 xs,.int .i64 64,.int .i64 8] [] (.ro true .u8 (eB xs 64 56++GU xs.length 8)) []:=by
 have hK:cR xs.length 64 56<64:=Nat.mod_lt _ (by omega)
 have hl:=g9 xs 64 56
 have hq:=Nd (eB xs 64 56) xs.length 8 8
 show aj Tryz.prog 122 [.ro false .u8 xs,.int .i64 64,.int .i64 8] [] (.ro true .u8 (eB xs 64 56++(List.range 8).map fun j=>ng xs.length (8-1-j))) []
 rw [←hq]
 refine aj.frozen (N:=xs.length+1+cR xs.length 64 56+8) (ex:=false) (wh:=true) ?_ (by rw [y6,hl])
 refine aj.cg (xd false) 60 3 1 Tryz.func122 (by simp) rfl (fun s' x h=>?_) (s:=qS (xs.length+1+cR xs.length 64 56) (eB xs 64 56) xs 64 8)
  (p:=qO (eB xs 64 56) xs.length 8 (xs.length+1+cR xs.length 64 56) 8) (by kernel_rfl) (nq _ _ hl (by omega) _ (by omega)) rfl rfl
 have hh:=Fy xs 64 8
 rw [Nat.zero_add] at hh
 refine aG.items (xd true) 60 2 _ 1 (by simp) hh (by rw [cr (by omega),decide_eq_true (by omega)];rfl) (by decide) ?_
 exact aG.item 2 (by decide) (Tr.pre (Fz (pc:=64) (sz:=8) (q:=56) rfl (by decide) (by decide) hx) (aU.same rfl rfl)) h
end Go.Proofs.YtibfpjeeanppjaaGreat.Sh
end
section
namespace Go.Proofs.YtibfpjeeanppjaaGreat.Sh
open Go Go.Sy
def ahx (xs:List Int):List Int:=eB xs 128 112++GU xs.length 16
def fI (xs:List Int):List Int:=eB xs 64 56++GU xs.length 8
def Tv:List SV→Option (SV×List Blk×Bool)
 | [.ro false .u8 xs,.int .i64 pc,.int .i64 sz]=>bif pc==128&&sz==16 then some (.ro true .u8 (ahx xs),[],decide (xs.length<274877900000)) else bif pc==64&&sz==8 then some (.ro true .u8 (fI xs),[],decide (xs.length<274877900000)) else none
 |_=>none
noncomputable def acK:Entry Tryz.prog:=.val 122 _ Tryz.func122 (by decide) rfl true 0 Tv fun vs v new e=>by
 unfold Tv at e
 split at e
 ·rename_i xs pc sz
  by_cases h1:(pc==128&&sz==16)=true
  ·rw [h1] at e
   simp only [Bool.and_eq_true,beq_iff_eq] at h1
   obtain ⟨rfl,rfl⟩:=h1
   simp only [cond_true,Option.some.injEq,Prod.mk.injEq,decide_eq_true_eq] at e
   obtain ⟨rfl,rfl,h⟩:=e
   exact RB h
  ·rw [Bool.not_eq_true] at h1
   rw [h1] at e
   by_cases h2:(pc==64&&sz==8)=true
   ·rw [h2] at e
    simp only [Bool.and_eq_true,beq_iff_eq] at h2
    obtain ⟨rfl,rfl⟩:=h2
    simp only [cond_true,cond_false,Option.some.injEq,Prod.mk.injEq,decide_eq_true_eq] at e
    obtain ⟨rfl,rfl,h⟩:=e
    exact Nf h
   ·rw [Bool.not_eq_true] at h2
    rw [h2] at e
    cases e
 ·cases e
end Go.Proofs.YtibfpjeeanppjaaGreat.Sh
end
