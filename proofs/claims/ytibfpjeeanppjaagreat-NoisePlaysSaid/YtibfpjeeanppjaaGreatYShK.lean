/- This file holds the texts ShJ, ShK, a section each. No conditions beyond those in the theorems. -/
import Derived.Test.YtibfpjeeanppjaaGreatYShI
set_option linter.all false
set_option maxRecDepth 100000
section
namespace Go.Proofs.YtibfpjeeanppjaaGreat.Sh
open Go Go.Sy
noncomputable def qB:Code:=aE Tryz.f122
noncomputable def qC (b:Bool):bu:=mk (P:=Tryz.prog) [] [] fun i=>if i=23 then some b else none
theorem yX (b:Bool):ag Tryz.prog (qC b):=ah _ au.nil _ _
noncomputable def qS (m:Nat) (l xs:List Int) (pc sz:Int):St:=⟨slotsOf 62 [(0,.ro false .u8 xs),(1,.int .i64 pc),(2,.int .i64 sz),(7,.sl 0 0 0 1 m m false true)],[.b [.ints .u8 m l]],true⟩
section
variable (m:Nat) (l xs:List Int) (pc sz:Int)
theorem H9:(aW Tryz.prog (qC true) 60 0 2 (atoms qB) ⟨aO Tryz.f122.ntmps [.ro false .u8 xs,.int .i64 pc,.int .i64 sz],[],true⟩).bind (St.cut [0,1,2,7] 1)=
  some {qS (0+xs.length+1) (xs++[128]) xs pc sz with ob:=aa (aa true (aa true (decide (0+xs.length≤2^38)))) (xN xs.length (0+xs.length))}:=by kernel_rfl
theorem aa6:(exec Tryz.prog (qC true) 60 0 (inner (inner (aA 2 qB))) (qS m l xs pc sz)).bind (fun r=>(r.2.cut [0,1,2,7] 1).map fun q=>(r.1,q))=
  some (.normal,{qS (m+1) (l++[0]) xs pc sz with ob:=aa (aa (aa true (pc != 0)) ((m:Int).tmod pc != IntKind.i64.wrap (pc-sz))) (xN l.length m)}):=by kernel_rfl
theorem aa7:(exec Tryz.prog (qC false) 60 0 (inner (inner (aA 2 qB))) (qS m l xs pc sz)).bind (fun r=>(r.2.cut [0,1,2,7] 1).map fun q=>(r.1,q))=
  some (.exit 0,{qS m l xs pc sz with ob:=aa (aa true (pc != 0)) (!((m:Int).tmod pc != IntKind.i64.wrap (pc-sz)))}):=by kernel_rfl
end
theorem Ia {xs:List Int} {pc sz q:Nat} (hq:q+sz=pc) (hsz:0<sz) (hpc:pc<1000) (hx:xs.length<274877900000):
  Tr Tryz.prog none 0 (aA 2 qB) (qS (xs.length+1) (xs++[128]) xs pc sz) .normal (qS (xs.length+1+cU xs.length pc q) (eJ xs pc q) xs pc sz):=by
 obtain ⟨k1,k2⟩:=sg (len:=xs.length) (show q<pc by omega)
 have hK:cU xs.length pc q<pc:=Nat.mod_lt _ (by omega)
 have hne:(((pc:Nat):Int) != 0)=true:=bne_iff_ne.2 (by omega)
 have hw:IntKind.i64.wrap ((pc:Int)-(sz:Int))=((q:Nat):Int):=by rw [wrap_i64 _ (by omega) (by omega)];omega
 have hm:∀j:Nat,((xs.length+1+j:Nat):Int).tmod (pc:Int)=(((xs.length+1+j)%pc:Nat):Int):=fun j=>by
  rw [Int.tmod_eq_emod_of_nonneg (by omega),Int.natCast_emod]
 have key:=Tr.loop (P:=Tryz.prog) (ro:=none) (k:=0) 0 (c:=aA 2 qB) (by kernel_rfl) (fun j:Nat=>qS (xs.length+1+j) (xs++[128]++List.replicate j 0) xs pc sz) (cU xs.length pc q) (s':=qS (xs.length+1+cU xs.length pc q) (eJ xs pc q) xs pc sz) (fun j hj=>?_) ?_
 ·refine Tr.pre key (bq.same rfl ?_)
  show [_]=[_]
  simp
 ·have k:=aa6 (xs.length+1+j) (xs++[128]++List.replicate j 0) xs pc sz
  have hl:(xs++[128]++List.replicate j 0).length=xs.length+1+j:=by simp;omega
  rw [hne,hm,hw,hl,cG (by omega),bne_iff_ne.2 (show (((xs.length+1+j)%pc:Nat):Int)≠((q:Nat):Int) from fun h=>k2 j hj (by omega))] at k
  refine Tr.post (Tr.cut (yX true) 60 _ 1 (by omega) k rfl) (bq.same rfl ?_)
  show [_]=[_]
  rw [List.replicate_succ', ←List.append_assoc];rfl
 ·have k:=aa7 (xs.length+1+cU xs.length pc q) (eJ xs pc q) xs pc sz
  rw [hne,hm,hw,k1] at k
  exact Tr.post (Tr.cut (yX false) 60 _ 1 (by omega) k (by simp [aa])) (bq.same rfl rfl)
def dQ (n:Int):Nat→Int
 |0=>IntKind.i64.wrap (n.tdiv 32)
 |i+1=>IntKind.i64.wrap ((dQ n i).tdiv 256)
def oz (n:Int):Nat→Int
 |0=>IntKind.u8.wrap (IntKind.i64.wrap (n.tmod 32*8))
 |i+1=>IntKind.u8.wrap ((dQ n i).tmod 256)
def qL (l:List Int) (n:Int) (sz:Nat):Nat→List Int
 |0=>l
 |i+1=>qL l n sz i++[oz n (sz-1-i)]
def qO (l:List Int) (n:Int) (sz m:Nat):Nat→Bool
 |0=>true
 |i+1=>aa (qO l n sz m i) (xN (qL l n sz i).length (m+i))
theorem A6 (l:List Int) (n:Int) (sz:Nat):∀i,(qL l n sz i).length=l.length+i
 |0=>rfl
 |i+1=>by rw [qL,List.length_append,A6 l n sz i];rfl
theorem oD {l:List Int} (n:Int) (sz:Nat) {m:Nat} (h:l.length=m) (hm:m<274877901000):∀i,i<1000→qO l n sz m i=true
 |0,_=>rfl
 |i+1,hi=>by rw [qO,oD n sz h hm i (by omega),A6,h,cG (by omega)];rfl
theorem PI (l:List Int) (n:Int) (sz:Nat):∀i,qL l n sz i=l++(List.range i).map fun j=>oz n (sz-1-j)
 |0=>by simp [qL]
 |i+1=>by rw [qL,PI l n sz i,List.range_succ,List.map_append,List.append_assoc];rfl
def JC (n:Int) (sz:Nat):List Int:=(List.range sz).map fun j=>oz n (sz-1-j)
theorem Ut {xs:List Int} (hx:xs.length<274877900000):ai Tryz.prog 122 [.ro false .u8 xs,.int .i64 128,.int .i64 16] [] (.ro true .u8 (eJ xs 128 112++JC xs.length 16)) []:=by
 have hK:cU xs.length 128 112<128:=Nat.mod_lt _ (by omega)
 have hl:=iM xs 128 112
 have hq:=PI (eJ xs 128 112) xs.length 16 16
 show ai Tryz.prog 122 [.ro false .u8 xs,.int .i64 128,.int .i64 16] [] (.ro true .u8 (eJ xs 128 112++(List.range 16).map fun j=>oz xs.length (16-1-j))) []
 rw [←hq]
 refine ai.frozen (N:=xs.length+1+cU xs.length 128 112+16) (ex:=false) (wh:=true) ?_ (by rw [A6,hl])
 refine ai.cu (yX false) 60 3 1 Tryz.func122 (by simp) rfl (fun s' x h=>?_) (s:=qS (xs.length+1+cU xs.length 128 112) (eJ xs 128 112) xs 128 16)
  (p:=qO (eJ xs 128 112) xs.length 16 (xs.length+1+cU xs.length 128 112) 16) (by kernel_rfl) (oD _ _ hl (by omega) _ (by omega)) rfl rfl
 have hh:=H9 xs 128 16
 rw [Nat.zero_add] at hh
 refine bf.items (yX true) 60 2 _ 1 (by simp) hh (by rw [cG (by omega),decide_eq_true (by omega)];rfl) (by decide) ?_
 exact bf.item 2 (by decide) (Tr.pre (Ia (pc:=128) (sz:=16) (q:=112) rfl (by decide) (by decide) hx) (bq.same rfl rfl)) h
theorem PJ {xs:List Int} (hx:xs.length<274877900000):ai Tryz.prog 122 [.ro false .u8 xs,.int .i64 64,.int .i64 8] [] (.ro true .u8 (eJ xs 64 56++JC xs.length 8)) []:=by
 have hK:cU xs.length 64 56<64:=Nat.mod_lt _ (by omega)
 have hl:=iM xs 64 56
 have hq:=PI (eJ xs 64 56) xs.length 8 8
 show ai Tryz.prog 122 [.ro false .u8 xs,.int .i64 64,.int .i64 8] [] (.ro true .u8 (eJ xs 64 56++(List.range 8).map fun j=>oz xs.length (8-1-j))) []
 rw [←hq]
 refine ai.frozen (N:=xs.length+1+cU xs.length 64 56+8) (ex:=false) (wh:=true) ?_ (by rw [A6,hl])
 refine ai.cu (yX false) 60 3 1 Tryz.func122 (by simp) rfl (fun s' x h=>?_) (s:=qS (xs.length+1+cU xs.length 64 56) (eJ xs 64 56) xs 64 8)
  (p:=qO (eJ xs 64 56) xs.length 8 (xs.length+1+cU xs.length 64 56) 8) (by kernel_rfl) (oD _ _ hl (by omega) _ (by omega)) rfl rfl
 have hh:=H9 xs 64 8
 rw [Nat.zero_add] at hh
 refine bf.items (yX true) 60 2 _ 1 (by simp) hh (by rw [cG (by omega),decide_eq_true (by omega)];rfl) (by decide) ?_
 exact bf.item 2 (by decide) (Tr.pre (Ia (pc:=64) (sz:=8) (q:=56) rfl (by decide) (by decide) hx) (bq.same rfl rfl)) h
end Go.Proofs.YtibfpjeeanppjaaGreat.Sh
end
section
namespace Go.Proofs.YtibfpjeeanppjaaGreat.Sh
open Go Go.Sy
def ald (xs:List Int):List Int:=eJ xs 128 112++JC xs.length 16
def fX (xs:List Int):List Int:=eJ xs 64 56++JC xs.length 8
def Wj:List SV→Option (SV×List Blk×Bool)
 | [.ro false .u8 xs,.int .i64 pc,.int .i64 sz]=>bif pc==128&&sz==16 then some (.ro true .u8 (ald xs),[],decide (xs.length<274877900000)) else bif pc==64&&sz==8 then some (.ro true .u8 (fX xs),[],decide (xs.length<274877900000)) else none
 |_=>none
noncomputable def agk:Entry Tryz.prog:=.val 122 _ Tryz.func122 (by decide) rfl true 0 Wj fun vs v new e=>by
 unfold Wj at e
 split at e
 ·rename_i xs pc sz
  by_cases h1:(pc==128&&sz==16)=true
  ·rw [h1] at e
   simp only [Bool.and_eq_true,beq_iff_eq] at h1
   obtain ⟨rfl,rfl⟩:=h1
   simp only [cond_true,Option.some.injEq,Prod.mk.injEq,decide_eq_true_eq] at e
   obtain ⟨rfl,rfl,h⟩:=e
   exact Ut h
  ·rw [Bool.not_eq_true] at h1
   rw [h1] at e
   by_cases h2:(pc==64&&sz==8)=true
   ·rw [h2] at e
    simp only [Bool.and_eq_true,beq_iff_eq] at h2
    obtain ⟨rfl,rfl⟩:=h2
    simp only [cond_true,cond_false,Option.some.injEq,Prod.mk.injEq,decide_eq_true_eq] at e
    obtain ⟨rfl,rfl,h⟩:=e
    exact PJ h
   ·rw [Bool.not_eq_true] at h2
    rw [h2] at e
    cases e
 ·cases e
end Go.Proofs.YtibfpjeeanppjaaGreat.Sh
end
