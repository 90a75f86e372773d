/- This file holds the texts TrD, TrE, a section each. No conditions beyond those in the theorems. -/
import Derived.Test.YthlnlcijnoadcaaGreatDoorFTrC
import Derived.Test.YthlnlcijnoadcaaGreatDoorFSxF
set_option linter.all false
set_option maxRecDepth 100000
section
namespace Go.Proofs.YthlnlcijnoadcaaGreatDoor.Tr
open Go Go.Sy
theorem wrapI {n:Int} (h0: -4611686018427387904≤n) (h1:n<4611686018427387904):IntKind.i64.wrap n=n:=IntWalk.i64_in n (by omega)
theorem wrapS {i:Nat} (h:i<274877906944+2):IntKind.i64.wrap ((i:Int)+1)=((i+1:Nat):Int):=by
 rw [wrapI (by omega) (by omega)];omega
theorem inBt {i:Int} {n:Nat} (h0:0≤i) (h1:i<n):inB i n=true:=by
 unfold inB
 simp only [Bool.and_eq_true,decide_eq_true_eq]
 omega
theorem inBN {i n:Nat} (h:i<n):inB (i:Int) n=true:=inBt (by omega) (by omega)
theorem ltN {i n:Nat} (h:i<n):decide ((i:Int)<(n:Int))=true:=decide_eq_true (by omega)
theorem nltN {i n:Nat} (h:n≤i):decide ((i:Int)<(n:Int))=false:=decide_eq_false (by omega)
theorem getD_get {l:List Int} {i:Nat} (h:i<l.length):l.getD i 0=l[i]:=by simp [List.getD,List.getElem?_eq_getElem h]
theorem range_all_list {l:List Int} {p:Int→Bool}:(List.range l.length).all (fun i=>p (l.getD i 0))=l.all p:=by
 rw [Bool.eq_iff_iff,List.all_eq_true,List.all_eq_true]
 constructor
 ·intro h x hx
  obtain ⟨i,hi,rfl⟩:=List.getElem_of_mem hx
  have:=h i (List.mem_range.2 hi)
  rwa [getD_get hi] at this
 ·intro h i hi
  have hi:=List.mem_range.1 hi
  rw [getD_get hi]
  exact h _ (List.getElem_mem hi)
def ixT (a b:Bool):Nat→Option Bool:=fun i=>if i=9 then some a else if i=16 then some b else none
noncomputable def ixC (a b:Bool):Ctr:=mk (P:=Tryz.prog) [] [] (ixT a b)
theorem ixC_ok (a b:Bool):CtrSound Tryz.prog (ixC a b):=mk_sound _ InlOK.nil _ _
noncomputable def ixB:Code:=bodyOf Tryz.f161
noncomputable def ixS (xs:List Int) (v:Int) (i:Int):St:=⟨slotsOf 19 [(0,.ro false .i64 xs),(1,.int .i64 v),(7,.int .i64 xs.length),(8,.int .i64 i)],[],true⟩
noncomputable def ixF (i:Int):St:=⟨slotsOf 19 [(4,.int .i64 i)],[],true⟩
def indexV (xs:List Int) (v:Int):Int:=scanV (fun i=>!(v==xs.getD i 0)) xs.length (fun i=>(i:Int)) (-1)
section
variable (xs:List Int) (v i:Int)
theorem ix_head:(execL Tryz.prog (ixC true true) 60 0 2 (atoms ixB) ⟨slots0 Tryz.f161.ntmps [.ro false .i64 xs,.int .i64 v],[],true⟩).bind (St.cut [0,1,7,8] 0)=some (ixS xs v 0):=by kernel_rfl
theorem ix_one:resX (cutR [0,1,7,8] 0 (exec Tryz.prog (ixC true false) 60 0 (inner (inner (nthC 2 ixB))) (ixS xs v i)))=some (.normal,(ixS xs v (IntKind.i64.wrap (i+1))).t,[]):=by kernel_rfl
theorem ix_one':obX (cutR [0,1,7,8] 0 (exec Tryz.prog (ixC true false) 60 0 (inner (inner (nthC 2 ixB))) (ixS xs v i)))=andT (andT (andT (andT true (decide (i<(xs.length:Int)))) (inB i xs.length)) (decide (i.toNat<xs.length))) (!(v==xs.getD i.toNat 0)):=by kernel_rfl
theorem ix_out:resX (cutR [4] 0 (exec Tryz.prog (ixC true true) 60 0 (inner (inner (nthC 2 ixB))) (ixS xs v i)))=some (.ret,(ixF i).t,[]):=by kernel_rfl
theorem ix_out':obX (cutR [4] 0 (exec Tryz.prog (ixC true true) 60 0 (inner (inner (nthC 2 ixB))) (ixS xs v i)))=andT (andT (andT (andT true (decide (i<(xs.length:Int)))) (inB i xs.length)) (decide (i.toNat<xs.length))) (v==xs.getD i.toNat 0):=by kernel_rfl
theorem ix_end:resX (cutR [] 0 (exec Tryz.prog (ixC false true) 60 0 (inner (inner (nthC 2 ixB))) (ixS xs v i)))=some (.exit 0,slotsOf 19 [],[]):=by kernel_rfl
theorem ix_end':obX (cutR [] 0 (exec Tryz.prog (ixC false true) 60 0 (inner (inner (nthC 2 ixB))) (ixS xs v i)))=andT true (!decide (i<(xs.length:Int))):=by kernel_rfl
end
theorem oneOf_scan {b:Nat→Bool} {N:Nat} {α:Type} {g:α→SV} {vF:Nat→α} {vE:α}:oneOf (scanV b N (fun i=>[g (vF i)]) [g vE])=g (scanV b N vF vE):=by
 unfold scanV;cases firstN b N<;>rfl
theorem index_fn {xs:List Int} {v:Int} (h:xs.length≤274877906944):FnTr Tryz.prog 161 [.ro false .i64 xs,.int .i64 v] [] (.int .i64 (indexV xs v)) []:=by
 have key:=FnTr.scan (P:=Tryz.prog) (args:=[.ro false .i64 xs,.int .i64 v]) (h:=[]) (h':=[]) Tryz.func161 rfl 2 0 (fun j:Nat=>ixS xs v j) (fun i=>!(v==xs.getD i 0)) xs.length
  (fun x s' g=>TrL.items (ixC_ok true true) 60 2 _ 0 (by simp) (ix_head xs v) rfl (by decide) g) (by decide) (by kernel_rfl)
  (fun i hi hb _=>?_) (fun i=>ixF i) (fun i=>[.int .i64 (i:Int)]) (fun i hi hb _=>⟨?_,rfl,rfl⟩) (sE:=⟨slotsOf 19 [],[],true⟩) (sE':=ixF (-1)) (vE:=[.int .i64 (-1)]) (xE:=.ret) (fun _=>?_) (fun _=>⟨?_,.inl rfl,rfl,rfl⟩)
 ·rw [oneOf_scan (g:=SV.int .i64) (vF:=fun i:Nat=>(i:Int)) (vE:=-1)] at key
  exact key
 ·have e:=ix_one xs v i
  rw [wrapS (by omega)] at e
  exact Tr.cutX (ixC_ok true false) 60 _ 0 (Nat.le_refl _) (s':=ixS xs v ((i+1:Nat):Int)) _ e (ix_one' xs v i) (by rw [ltN hi,inBN hi,Int.toNat_natCast,decide_eq_true hi,hb];rfl)
 ·exact Tr.cutX (ixC_ok true true) 60 _ 0 (Nat.le_refl _) (s':=ixF i) _ (ix_out xs v i) (ix_out' xs v i) (by rw [ltN hi,inBN hi,Int.toNat_natCast,decide_eq_true hi,show (v==xs.getD i 0)=true by simpa using hb];rfl)
 ·exact Tr.cutX (ixC_ok false true) 60 _ 0 (Nat.le_refl _) (s':=⟨slotsOf 19 [],[],true⟩) _ (ix_end xs v xs.length) (ix_end' xs v xs.length) (by rw [nltN (Nat.le_refl _)];rfl)
 ·exact TrL.rest (ixC_ok true true) 60 (by kernel_rfl) rfl
def hasB (xs:List Int) (v:Int):Bool:=xs.any fun x=>v==x
theorem index_has (xs:List Int) (v:Int):decide (indexV xs v≥0)=hasB xs v:=by
 have h1:xs.all (fun x=>!(v==x))=!hasB xs v:=by simp [hasB,List.all_eq_not_any_not]
 have h2:=range_all_list (l:=xs) (p:=fun x=>!(v==x))
 rw [←firstN_all,h1] at h2
 unfold indexV scanV
 cases hq:firstN (fun i=>!(v==xs.getD i 0)) xs.length with
 |none=>
  rw [hq] at h2
  rw [show hasB xs v=false by simpa using h2.symm]
  decide
 |some i=>
  rw [hq] at h2
  rw [show hasB xs v=true by simpa using h2.symm]
  exact decide_eq_true (show (i:Int)≥0 by omega)
noncomputable def indexF:List SV→Option (SV×List Blk×Bool)
 | [.ro false .i64 xs,.int .i64 v]=>some (.int .i64 (indexV xs v),[],decide (xs.length≤274877906944))
 |_=>none
noncomputable def indexE:Entry Tryz.prog:=.val 161 _ Tryz.func161 (by decide) rfl true 0 indexF fun vs v new e=>by
 unfold indexF at e
 split at e
 ·simp only [Option.some.injEq,Prod.mk.injEq,decide_eq_true_eq] at e
  obtain ⟨rfl,rfl,h⟩:=e
  exact index_fn h
 ·cases e
noncomputable def coC:Ctr:=mk (P:=Tryz.prog) [indexE] []
theorem coC_ok:CtrSound Tryz.prog coC:=mk_sound _ InlOK.nil _ _
theorem co_run (xs:List Int) (v:Int):(callS Tryz.prog coC 60 Tryz.f112 [.ro false .i64 xs,.int .i64 v] []).map (fun x=>(x.1,x.2.2))=some (.bool (decide (indexV xs v≥0)),andT true (andT true (decide (xs.length≤274877906944)))):=by kernel_rfl
theorem contains_fn {xs:List Int} {v:Int} (h:xs.length≤274877906944):FnTr Tryz.prog 112 [.ro false .i64 xs,.int .i64 v] [] (.bool (hasB xs v)) []:=by
 rw [←index_has]
 exact call0 coC_ok 60 Tryz.func112 (co_run xs v) (by rw [decide_eq_true h];rfl) rfl
noncomputable def containsF:List SV→Option (SV×List Blk×Bool)
 | [.ro false .i64 xs,.int .i64 v]=>some (.bool (hasB xs v),[],decide (xs.length≤274877906944))
 |_=>none
noncomputable def containsE:Entry Tryz.prog:=.val 112 _ Tryz.func112 (by decide) rfl true 0 containsF fun vs v new e=>by
 unfold containsF at e
 split at e
 ·simp only [Option.some.injEq,Prod.mk.injEq,decide_eq_true_eq] at e
  obtain ⟨rfl,rfl,h⟩:=e
  exact contains_fn h
 ·cases e
end Go.Proofs.YthlnlcijnoadcaaGreatDoor.Tr
end
section
namespace Go.Proofs.YthlnlcijnoadcaaGreatDoor.Tr
open Go Go.Sy
def eqT (a b c:Bool):Nat→Option Bool:=fun i=>if i=10 then some a else if i=14 then some b else if i=24 then some c else none
noncomputable def eqC (a b c:Bool):Ctr:=mk (P:=Tryz.prog) [] [] (eqT a b c)
theorem eqC_ok (a b c:Bool):CtrSound Tryz.prog (eqC a b c):=mk_sound _ InlOK.nil _ _
noncomputable def eqB:Code:=bodyOf Tryz.f131
noncomputable def eq0 (xs ys:List Int):St:=⟨slots0 Tryz.f131.ntmps [.ro false .i64 xs,.ro false .i64 ys],[],true⟩
noncomputable def eqQ (xs ys:List Int) (i:Int):St:=⟨slotsOf 26 [(0,.ro false .i64 xs),(1,.ro false .i64 ys),(12,.int .i64 xs.length),(13,.int .i64 i)],[],true⟩
noncomputable def eqF (b:Bool):St:=⟨slotsOf 26 [(4,.bool b)],[],true⟩
theorem eq_no (xs ys:List Int):(callS Tryz.prog (eqC true true true) 60 Tryz.f131 [.ro false .i64 xs,.ro false .i64 ys] []).map (fun x=>(x.1,x.2.2))=some (.bool false,andT true (((xs.length:Nat):Int) != ((ys.length:Nat):Int))):=by kernel_rfl
theorem eq_head (xs ys:List Int):resX (cutR [0,1,12,13] 0 ((execL Tryz.prog (eqC false true true) 60 0 4 (atoms eqB) (eq0 xs ys)).map fun s=>(Exit.normal,s)))=some (.normal,(eqQ xs ys 0).t,[]):=by kernel_rfl
theorem eq_head' (xs ys:List Int):obX (cutR [0,1,12,13] 0 ((execL Tryz.prog (eqC false true true) 60 0 4 (atoms eqB) (eq0 xs ys)).map fun s=>(Exit.normal,s)))=(andT true !((xs.length:Nat):Int) != ((ys.length:Nat):Int)):=by kernel_rfl
theorem eq_one (xs ys:List Int) (i:Int):resX (cutR [0,1,12,13] 0 (exec Tryz.prog (eqC false true false) 60 0 (inner (inner (nthC 4 eqB))) (eqQ xs ys i)))=some (.normal,(eqQ xs ys (IntKind.i64.wrap (i+1))).t,[]):=by kernel_rfl
theorem eq_one' (xs ys:List Int) (i:Int):obX (cutR [0,1,12,13] 0 (exec Tryz.prog (eqC false true false) 60 0 (inner (inner (nthC 4 eqB))) (eqQ xs ys i)))=(andT (andT (andT (andT (andT (andT true (decide (i<((xs.length:Nat):Int)))) (inB i xs.length)) (decide (i.toNat<xs.length))) (inB i ys.length)) (decide (i.toNat<ys.length))) !xs.getD i.toNat 0 != ys.getD i.toNat 0):=by kernel_rfl
theorem eq_out (xs ys:List Int) (i:Int):resX (cutR [4] 0 (exec Tryz.prog (eqC false true true) 60 0 (inner (inner (nthC 4 eqB))) (eqQ xs ys i)))=some (.ret,(eqF false).t,[]):=by kernel_rfl
theorem eq_out' (xs ys:List Int) (i:Int):obX (cutR [4] 0 (exec Tryz.prog (eqC false true true) 60 0 (inner (inner (nthC 4 eqB))) (eqQ xs ys i)))=(andT (andT (andT (andT (andT (andT true (decide (i<((xs.length:Nat):Int)))) (inB i xs.length)) (decide (i.toNat<xs.length))) (inB i ys.length)) (decide (i.toNat<ys.length))) (xs.getD i.toNat 0 != ys.getD i.toNat 0)):=by kernel_rfl
theorem eq_end (xs ys:List Int) (i:Int):resX (cutR [] 0 (exec Tryz.prog (eqC false false false) 60 0 (inner (inner (nthC 4 eqB))) (eqQ xs ys i)))=some (.exit 0,slotsOf 26 [],[]):=by kernel_rfl
theorem eq_end' (xs ys:List Int) (i:Int):obX (cutR [] 0 (exec Tryz.prog (eqC false false false) 60 0 (inner (inner (nthC 4 eqB))) (eqQ xs ys i)))=(andT true !decide (i<((xs.length:Nat):Int))):=by kernel_rfl
theorem equal_fn {xs ys:List Int} (h:xs.length≤274877906944):FnTr Tryz.prog 131 [.ro false .i64 xs,.ro false .i64 ys] [] (.bool (decide (xs=ys))) []:=by
 by_cases hl:xs.length=ys.length
 ·have key:=FnTr.scan (P:=Tryz.prog) (args:=[.ro false .i64 xs,.ro false .i64 ys]) (h:=[]) (h':=[]) Tryz.func131 rfl 4 0 (fun j:Nat=>eqQ xs ys j) (fun i=>!(xs.getD i 0 != ys.getD i 0)) xs.length
   (fun x s' g=>TrL.itemsX (eqC_ok false true true) 60 4 _ 0 (by simp) _ (eq_head xs ys) (eq_head' xs ys) (by simp [hl,andT]) (by decide) rfl g) (by decide) (by kernel_rfl)
   (fun i hi hb _=>?_) (fun i=>eqF false) (fun i=>[.bool false]) (fun i hi hb _=>⟨?_,rfl,rfl⟩) (sE:=⟨slotsOf 26 [],[],true⟩) (sE':=eqF true) (vE:=[.bool true]) (xE:=.ret) (fun _=>?_) (fun _=>⟨?_,.inl rfl,rfl,rfl⟩)
  ·rw [oneOf_scan (g:=SV.bool) (vF:=fun _:Nat=>false) (vE:=true)] at key
   have hv:scanV (fun i=>!(xs.getD i 0 != ys.getD i 0)) xs.length (fun _=>false) true=decide (xs=ys):=by
    have h1:scanV (fun i=>!(xs.getD i 0 != ys.getD i 0)) xs.length (fun _=>false) true=(List.range xs.length).all (fun i=>!(xs.getD i 0 != ys.getD i 0)):=by
     unfold scanV;rw [←firstN_all];cases firstN _ _<;>rfl
    rw [h1,Bool.eq_iff_iff,List.all_eq_true,decide_eq_true_eq]
    constructor
    ·intro g
     apply List.ext_getElem hl
     intro i h1 h2
     have:=g i (List.mem_range.2 h1)
     rw [getD_get h1,getD_get h2] at this
     simpa using this
    ·rintro rfl i _;simp
   rw [hv] at key;exact key
  ·have e:=eq_one xs ys i
   rw [wrapS (by omega)] at e
   exact Tr.cutX (eqC_ok false true false) 60 _ 0 (Nat.le_refl _) (s':=eqQ xs ys ((i+1:Nat):Int)) _ e (eq_one' xs ys i) (by rw [ltN hi,inBN hi,inBN (hl▸hi),Int.toNat_natCast,decide_eq_true hi,decide_eq_true (hl▸hi:i<ys.length),hb];rfl)
  ·exact Tr.cutX (eqC_ok false true true) 60 _ 0 (Nat.le_refl _) (s':=eqF false) _ (eq_out xs ys i) (eq_out' xs ys i) (by rw [ltN hi,inBN hi,inBN (hl▸hi),Int.toNat_natCast,decide_eq_true hi,decide_eq_true (hl▸hi:i<ys.length),show (xs.getD i 0 != ys.getD i 0)=true by simpa using hb];rfl)
  ·exact Tr.cutX (eqC_ok false false false) 60 _ 0 (Nat.le_refl _) (s':=⟨slotsOf 26 [],[],true⟩) _ (eq_end xs ys xs.length) (eq_end' xs ys xs.length) (by rw [nltN (Nat.le_refl _)];rfl)
  ·exact TrL.rest (eqC_ok true true true) 60 (by kernel_rfl) rfl
 ·rw [decide_eq_false (fun q=>hl (by rw [q]))]
  exact call0 (eqC_ok true true true) 60 Tryz.func131 (eq_no xs ys) (by rw [show (((xs.length:Nat):Int) != ((ys.length:Nat):Int))=true by simpa using fun h=>hl (by omega)];rfl) rfl
noncomputable def equalF:List SV→Option (SV×List Blk×Bool)
 | [.ro false .i64 xs,.ro false .i64 ys]=>some (.bool (decide (xs=ys)),[],decide (xs.length≤274877906944))
 |_=>none
noncomputable def equalE:Entry Tryz.prog:=.val 131 _ Tryz.func131 (by decide) rfl true 0 equalF fun vs v new e=>by
 unfold equalF at e
 split at e
 ·simp only [Option.some.injEq,Prod.mk.injEq,decide_eq_true_eq] at e
  obtain ⟨rfl,rfl,h⟩:=e
  exact equal_fn h
 ·cases e
noncomputable def leInl:List (FuncId×Func):=[(246,Tryz.f246)]
theorem leInl_ok:InlOK Tryz.prog leInl:=InlOK.cons Tryz.func246 (by decide) InlOK.nil
noncomputable def leC:Ctr:=mk (P:=Tryz.prog) [] leInl fun i=>if i=5∨i=6 then some false else none
theorem leC_ok:CtrSound Tryz.prog leC:=mk_sound _ leInl_ok _ _
noncomputable def lessIF:List SV→Option (SV×List Blk×Bool)
 | [.int .i64 x,.int .i64 y]=>some (.bool (decide (x<y)),[],true)
 |_=>none
noncomputable def lessIE:Entry Tryz.prog:=.val 201 _ Tryz.func201 (by decide) rfl false 0 lessIF fun vs v new e=>by
 unfold lessIF at e
 split at e
 ·simp only [Option.some.injEq,Prod.mk.injEq] at e
  obtain ⟨rfl,rfl,_⟩:=e
  rename_i x y _
  exact call0 leC_ok 60 Tryz.func201 (p:=andT true (andT true (!(x != x)))) (by kernel_rfl) (by simp [andT]) rfl
 ·cases e
def soT (a b:Bool):Nat→Option Bool:=fun i=>if i=8 then some a else if i=20 then some b else none
noncomputable def soC (a b:Bool):Ctr:=mk (P:=Tryz.prog) [lessIE] [] (soT a b)
theorem soC_ok (a b:Bool):CtrSound Tryz.prog (soC a b):=mk_sound _ InlOK.nil _ _
noncomputable def soB:Code:=bodyOf Tryz.f162
noncomputable def soS (xs:List Int) (i:Int):St:=⟨slotsOf 21 [(0,.ro false .i64 xs),(3,.int .i64 i)],[],true⟩
noncomputable def soF (b:Bool):St:=⟨slotsOf 21 [(2,.bool b)],[],true⟩
theorem so_head (xs:List Int):resX (cutR [0,3] 0 ((execL Tryz.prog (soC true true) 60 0 2 (atoms soB) ⟨slots0 Tryz.f162.ntmps [.ro false .i64 xs],[],true⟩).map fun s=>(Exit.normal,s)))=some (.normal,(soS xs (IntKind.i64.wrap ((xs.length:Int)-1))).t,[]):=by kernel_rfl
theorem so_head' (xs:List Int):obX (cutR [0,3] 0 ((execL Tryz.prog (soC true true) 60 0 2 (atoms soB) ⟨slots0 Tryz.f162.ntmps [.ro false .i64 xs],[],true⟩).map fun s=>(Exit.normal,s)))=(true):=by kernel_rfl
theorem so_one (xs:List Int) (i:Int):resX (cutR [0,3] 0 (exec Tryz.prog (soC true false) 60 0 (inner (inner (nthC 2 soB))) (soS xs i)))=some (.normal,(soS xs (IntKind.i64.wrap (i-1))).t,[]):=by kernel_rfl
theorem so_one' (xs:List Int) (i:Int):obX (cutR [0,3] 0 (exec Tryz.prog (soC true false) 60 0 (inner (inner (nthC 2 soB))) (soS xs i)))=(andT (andT (andT (andT (andT (andT true (decide (i>0))) (inB i xs.length)) (decide (i.toNat<xs.length))) (inB (IntKind.i64.wrap (i-1)) xs.length)) (decide ((IntKind.i64.wrap (i-1)).toNat<xs.length))) !decide (xs.getD i.toNat 0<xs.getD (IntKind.i64.wrap (i-1)).toNat 0)):=by kernel_rfl
theorem so_out (xs:List Int) (i:Int):resX (cutR [2] 0 (exec Tryz.prog (soC true true) 60 0 (inner (inner (nthC 2 soB))) (soS xs i)))=some (.ret,(soF false).t,[]):=by kernel_rfl
theorem so_out' (xs:List Int) (i:Int):obX (cutR [2] 0 (exec Tryz.prog (soC true true) 60 0 (inner (inner (nthC 2 soB))) (soS xs i)))=(andT (andT (andT (andT (andT (andT true (decide (i>0))) (inB i xs.length)) (decide (i.toNat<xs.length))) (inB (IntKind.i64.wrap (i-1)) xs.length)) (decide ((IntKind.i64.wrap (i-1)).toNat<xs.length))) (decide (xs.getD i.toNat 0<xs.getD (IntKind.i64.wrap (i-1)).toNat 0))):=by kernel_rfl
theorem so_end (xs:List Int) (i:Int):resX (cutR [] 0 (exec Tryz.prog (soC false false) 60 0 (inner (inner (nthC 2 soB))) (soS xs i)))=some (.exit 0,slotsOf 21 [],[]):=by kernel_rfl
theorem so_end' (xs:List Int) (i:Int):obX (cutR [] 0 (exec Tryz.prog (soC false false) 60 0 (inner (inner (nthC 2 soB))) (soS xs i)))=(andT true !decide (i>0)):=by kernel_rfl
def sortedB (xs:List Int):Bool:=(List.range (xs.length-1)).all fun j=>!decide (xs.getD (xs.length-1-j) 0<xs.getD (xs.length-1-j-1) 0)
theorem sorted_fn {xs:List Int} (h:xs.length≤274877906944):FnTr Tryz.prog 162 [.ro false .i64 xs] [] (.bool (sortedB xs)) []:=by
 have key:=FnTr.scan (P:=Tryz.prog) (args:=[.ro false .i64 xs]) (h:=[]) (h':=[]) Tryz.func162 rfl 2 0 (fun j:Nat=>soS xs ((xs.length:Int)-1-j)) (fun j=>!decide (xs.getD (xs.length-1-j) 0<xs.getD (xs.length-1-j-1) 0)) (xs.length-1)
  (fun x s' g=>TrL.itemsX (soC_ok true true) 60 2 _ 0 (by simp) (s1:=soS xs ((xs.length:Int)-1-(0:Nat))) _ (by have:=so_head xs;rw [wrapI (by omega) (by omega)] at this;rw [show (xs.length:Int)-1-((0:Nat):Int)=(xs.length:Int)-1 by omega];exact this) (so_head' xs) rfl (by decide) rfl g) (by decide) (by kernel_rfl)
  (fun j hj hb _=>?_) (fun i=>soF false) (fun i=>[.bool false]) (fun j hj hb _=>⟨?_,rfl,rfl⟩) (sE:=⟨slotsOf 21 [],[],true⟩) (sE':=soF true) (vE:=[.bool true]) (xE:=.ret) (fun _=>?_) (fun _=>⟨?_,.inl rfl,rfl,rfl⟩)
 ·rw [oneOf_scan (g:=SV.bool) (vF:=fun _:Nat=>false) (vE:=true)] at key
  have hv:scanV (fun j=>!decide (xs.getD (xs.length-1-j) 0<xs.getD (xs.length-1-j-1) 0)) (xs.length-1) (fun _=>false) true=sortedB xs:=by
   unfold scanV sortedB;rw [←firstN_all];cases firstN _ _<;>rfl
  rw [hv] at key;exact key
 ·have e:=so_one xs ((xs.length:Int)-1-j)
  have hi:(xs.length:Int)-1-j=((xs.length-1-j:Nat):Int):=by omega
  have hi2:(xs.length:Int)-1-j-1=((xs.length-1-j-1:Nat):Int):=by omega
  have e':=so_one' xs ((xs.length:Int)-1-j)
  rw [wrapI (by omega) (by omega)] at e e'
  refine Tr.cutX (soC_ok true false) 60 _ 0 (Nat.le_refl _) (s':=soS xs ((xs.length:Int)-1-((j+1:Nat):Int))) _ (by rw [show (xs.length:Int)-1-((j+1:Nat):Int)=(xs.length:Int)-1-j-1 by omega];exact e) e' ?_
  rw [hi2,hi,Int.toNat_natCast,Int.toNat_natCast,inBN (by omega),inBN (by omega),decide_eq_true (show xs.length-1-j<xs.length by omega),decide_eq_true (show xs.length-1-j-1<xs.length by omega),decide_eq_true (show ((xs.length-1-j:Nat):Int)>0 by omega),hb]
  rfl
 ·have e:=so_out xs ((xs.length:Int)-1-j)
  have hi:(xs.length:Int)-1-j=((xs.length-1-j:Nat):Int):=by omega
  have hi2:(xs.length:Int)-1-j-1=((xs.length-1-j-1:Nat):Int):=by omega
  have e':=so_out' xs ((xs.length:Int)-1-j)
  rw [wrapI (by omega) (by omega)] at e'
  refine Tr.cutX (soC_ok true true) 60 _ 0 (Nat.le_refl _) (s':=soF false) _ e e' ?_
  have hb':decide (xs.getD (xs.length-1-j) 0<xs.getD (xs.length-1-j-1) 0)=true:=by simpa using hb
  rw [hi2,hi,Int.toNat_natCast,Int.toNat_natCast,inBN (by omega),inBN (by omega),decide_eq_true (show xs.length-1-j<xs.length by omega),decide_eq_true (show xs.length-1-j-1<xs.length by omega),decide_eq_true (show ((xs.length-1-j:Nat):Int)>0 by omega),hb']
  rfl
 ·refine Tr.cutX (soC_ok false false) 60 _ 0 (Nat.le_refl _) (s':=⟨slotsOf 21 [],[],true⟩) _ (so_end xs _) (so_end' xs _) ?_
  rw [decide_eq_false (by omega)]
  rfl
 ·exact TrL.rest (soC_ok true true) 60 (by kernel_rfl) rfl
noncomputable def sortedF:List SV→Option (SV×List Blk×Bool)
 | [.ro false .i64 xs]=>some (.bool (sortedB xs),[],decide (xs.length≤274877906944))
 |_=>none
noncomputable def sortedE:Entry Tryz.prog:=.val 162 _ Tryz.func162 (by decide) rfl true 0 sortedF fun vs v new e=>by
 unfold sortedF at e
 split at e
 ·simp only [Option.some.injEq,Prod.mk.injEq,decide_eq_true_eq] at e
  obtain ⟨rfl,rfl,h⟩:=e
  exact sorted_fn h
 ·cases e
end Go.Proofs.YthlnlcijnoadcaaGreatDoor.Tr
end
