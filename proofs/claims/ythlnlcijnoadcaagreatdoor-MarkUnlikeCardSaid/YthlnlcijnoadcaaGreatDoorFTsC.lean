/- This file proves the contracts of the reference's Above, In, used, Leaf. Conditions: trees of 32 leaves at most. -/
import Derived.Test.YthlnlcijnoadcaaGreatDoorFTsB
set_option linter.all false
set_option maxRecDepth 100000
namespace Go.Proofs.YthlnlcijnoadcaaGreatDoor.Tr
open Go Go.Sy
noncomputable def rParentE:Entry Tryz.prog:=.val 113 _ Tryz.func113 (by decide) rfl false 0 (fun vs=>match vs with
 | [.int .i64 x,.int .i64 n]=>some (.int .i64 (parV x n),[],decide (0≤n)&&nodeB x n)
 |_=>none) fun vs v new e=>by
 split at e
 ·simp only [Option.some.injEq,Prod.mk.injEq,Bool.and_eq_true,decide_eq_true_eq] at e
  obtain ⟨rfl,rfl,h1,h2⟩:=e
  obtain ⟨m,rfl⟩:=Int.eq_ofNat_of_zero_le h1
  exact rParent_fn h2
 ·cases e
noncomputable def abC (l:List (Nat×Bool)):Ctr:=mk (P:=Tryz.prog) [rNodeE true,rParentE] [] (uT l)
theorem abC_ok (l:List (Nat×Bool)):CtrSound Tryz.prog (abC l):=mk_sound _ InlOK.nil _ _
noncomputable def abB:Code:=bodyOf Tryz.f76
noncomputable def abS (x n p:Int):St:=⟨slotsOf 27 [(0,.int .i64 x),(2,.int .i64 n),(7,.int .i64 p)],[],true⟩
theorem ab_head (x y n:Int):resX (cutR [0,2,7] 0 ((execL Tryz.prog (abC []) 60 0 4 (atoms abB) ⟨slots0 Tryz.f76.ntmps [.int .i64 x,.int .i64 y,.int .i64 n],[],true⟩).map fun s=>(Exit.normal,s)))=some (.normal,(abS x n y).t,[]):=by kernel_rfl
theorem ab_head' (x y n:Int):obX (cutR [0,2,7] 0 ((execL Tryz.prog (abC []) 60 0 4 (atoms abB) ⟨slots0 Tryz.f76.ntmps [.int .i64 x,.int .i64 y,.int .i64 n],[],true⟩).map fun s=>(Exit.normal,s)))=(andT (andT true (andT true (sizeB n&&nodeB x n==true))) (andT true (sizeB n&&nodeB y n==true))):=by kernel_rfl
theorem ab_go (x n p:Int):resX (cutR [0,2,7] 0 (exec Tryz.prog (abC [(20,true),(26,false)]) 60 0 (inner (inner (nthC 4 abB))) (abS x n p)))=some (.normal,(abS x n (parV p n)).t,[]):=by kernel_rfl
theorem ab_go' (x n p:Int):obX (cutR [0,2,7] 0 (exec Tryz.prog (abC [(20,true),(26,false)]) 60 0 (inner (inner (nthC 4 abB))) (abS x n p)))=(andT (andT (andT true (decide (p≥0))) !p==x) (andT true (decide (0≤n)&&nodeB p n))):=by kernel_rfl
theorem ab_is (x n p:Int):resX (cutR [6] 0 (exec Tryz.prog (abC [(20,true),(26,true)]) 60 0 (inner (inner (nthC 4 abB))) (abS x n p)))=some (.ret,(bS 27 6 true).t,[]):=by kernel_rfl
theorem ab_is' (x n p:Int):obX (cutR [6] 0 (exec Tryz.prog (abC [(20,true),(26,true)]) 60 0 (inner (inner (nthC 4 abB))) (abS x n p)))=(andT (andT true (decide (p≥0))) (p==x)):=by kernel_rfl
theorem ab_end (x n p:Int):resX (cutR [] 0 (exec Tryz.prog (abC [(20,false)]) 60 0 (inner (inner (nthC 4 abB))) (abS x n p)))=some (.exit 0,slotsOf 27 [],[]):=by kernel_rfl
theorem ab_end' (x n p:Int):obX (cutR [] 0 (exec Tryz.prog (abC [(20,false)]) 60 0 (inner (inner (nthC 4 abB))) (abS x n p)))=(andT true !decide (p≥0)):=by kernel_rfl
noncomputable def inBd:Code:=bodyOf Tryz.f75
noncomputable def inS (x:Int) (l:List Int) (i:Int):St:=⟨slotsOf 18 [(0,.int .i64 x),(1,.ro false .i64 l),(5,.int .i64 i)],[],true⟩
theorem in_head (x:Int) (l:List Int):resX (cutR [0,1,5] 0 ((execL Tryz.prog (usC []) 60 0 2 (atoms inBd) ⟨slots0 Tryz.f75.ntmps [.int .i64 x,.ro false .i64 l],[],true⟩).map fun s=>(Exit.normal,s)))=some (.normal,(inS x l 0).t,[]):=by kernel_rfl
theorem in_head' (x:Int) (l:List Int):obX (cutR [0,1,5] 0 ((execL Tryz.prog (usC []) 60 0 2 (atoms inBd) ⟨slots0 Tryz.f75.ntmps [.int .i64 x,.ro false .i64 l],[],true⟩).map fun s=>(Exit.normal,s)))=(true):=by kernel_rfl
theorem in_go (x:Int) (l:List Int) (i:Int):resX (cutR [0,1,5] 0 (exec Tryz.prog (usC [(9,true),(17,false)]) 60 0 (inner (inner (nthC 2 inBd))) (inS x l i)))=some (.normal,(inS x l (IntKind.i64.wrap (i+1))).t,[]):=by kernel_rfl
theorem in_go' (x:Int) (l:List Int) (i:Int):obX (cutR [0,1,5] 0 (exec Tryz.prog (usC [(9,true),(17,false)]) 60 0 (inner (inner (nthC 2 inBd))) (inS x l i)))=(andT (andT (andT (andT true (decide (i<((l.length:Nat):Int)))) (inB i l.length)) (decide (i.toNat<l.length))) !l.getD i.toNat 0==x):=by kernel_rfl
theorem in_is (x:Int) (l:List Int) (i:Int):resX (cutR [4] 0 (exec Tryz.prog (usC [(9,true),(17,true)]) 60 0 (inner (inner (nthC 2 inBd))) (inS x l i)))=some (.ret,(bS 18 4 true).t,[]):=by kernel_rfl
theorem in_is' (x:Int) (l:List Int) (i:Int):obX (cutR [4] 0 (exec Tryz.prog (usC [(9,true),(17,true)]) 60 0 (inner (inner (nthC 2 inBd))) (inS x l i)))=(andT (andT (andT (andT true (decide (i<((l.length:Nat):Int)))) (inB i l.length)) (decide (i.toNat<l.length))) (l.getD i.toNat 0==x)):=by kernel_rfl
theorem in_end (x:Int) (l:List Int) (i:Int):resX (cutR [] 0 (exec Tryz.prog (usC [(9,false)]) 60 0 (inner (inner (nthC 2 inBd))) (inS x l i)))=some (.exit 0,slotsOf 18 [],[]):=by kernel_rfl
theorem in_end' (x:Int) (l:List Int) (i:Int):obX (cutR [] 0 (exec Tryz.prog (usC [(9,false)]) 60 0 (inner (inner (nthC 2 inBd))) (inS x l i)))=(andT true !decide (i<((l.length:Nat):Int))):=by kernel_rfl
noncomputable def ruB:Code:=bodyOf Tryz.f57
noncomputable def ruS (N:Nat) (t:Nat→Nod) (x:Int):St:=⟨slotsOf 19 [(0,.rol false 99 N (tng t)),(5,.int .i64 x)],[],true⟩
theorem ru_head (N:Nat) (t:Nat→Nod) (fr:Int):resX (cutR [0,5] 0 ((execL Tryz.prog (usC []) 60 0 2 (atoms ruB) ⟨slots0 Tryz.f57.ntmps [.rol false 99 N (tng t),.int .i64 fr],[],true⟩).map fun s=>(Exit.normal,s)))=some (.normal,(ruS N t (IntKind.i64.wrap (2*fr))).t,[]):=by kernel_rfl
theorem ru_head' (N:Nat) (t:Nat→Nod) (fr:Int):obX (cutR [0,5] 0 ((execL Tryz.prog (usC []) 60 0 2 (atoms ruB) ⟨slots0 Tryz.f57.ntmps [.rol false 99 N (tng t),.int .i64 fr],[],true⟩).map fun s=>(Exit.normal,s)))=(true):=by kernel_rfl
theorem ru_go (N:Nat) (t:Nat→Nod) (x:Int):resX (cutR [0,5] 0 (exec Tryz.prog (usC [(11,true),(18,false)]) 60 0 (inner (inner (nthC 2 ruB))) (ruS N t x)))=some (.normal,(ruS N t (IntKind.i64.wrap (x+2))).t,[]):=by kernel_rfl
theorem ru_go' (N:Nat) (t:Nat→Nod) (x:Int):obX (cutR [0,5] 0 (exec Tryz.prog (usC [(11,true),(18,false)]) 60 0 (inner (inner (nthC 2 ruB))) (ruS N t x)))=(andT (andT (andT (andT true (decide (x<((N:Nat):Int)))) (inB x N)) (true&&(decide (x.toNat<N)&&true))) !(t x.toNat).1):=by kernel_rfl
theorem ru_is (N:Nat) (t:Nat→Nod) (x:Int):resX (cutR [4] 0 (exec Tryz.prog (usC [(11,true),(18,true)]) 60 0 (inner (inner (nthC 2 ruB))) (ruS N t x)))=some (.ret,(bS 19 4 true).t,[]):=by kernel_rfl
theorem ru_is' (N:Nat) (t:Nat→Nod) (x:Int):obX (cutR [4] 0 (exec Tryz.prog (usC [(11,true),(18,true)]) 60 0 (inner (inner (nthC 2 ruB))) (ruS N t x)))=(andT (andT (andT (andT true (decide (x<((N:Nat):Int)))) (inB x N)) (true&&(decide (x.toNat<N)&&true))) (t x.toNat).1):=by kernel_rfl
theorem ru_end (N:Nat) (t:Nat→Nod) (x:Int):resX (cutR [] 0 (exec Tryz.prog (usC [(11,false)]) 60 0 (inner (inner (nthC 2 ruB))) (ruS N t x)))=some (.exit 0,slotsOf 19 [],[]):=by kernel_rfl
theorem ru_end' (N:Nat) (t:Nat→Nod) (x:Int):obX (cutR [] 0 (exec Tryz.prog (usC [(11,false)]) 60 0 (inner (inner (nthC 2 ruB))) (ruS N t x)))=(andT true !decide (x<((N:Nat):Int))):=by kernel_rfl
theorem lf_0 (a:Nod):(callS Tryz.prog (usC [(4,false)]) 60 Tryz.f59 [.agg a.cells] []).map (fun x=>(x.1,x.2.2))=some (.bool false,andT true !a.1):=by kernel_rfl
theorem lf_1 (a:Nod):(callS Tryz.prog (usC [(4,true),(8,false)]) 60 Tryz.f59 [.agg a.cells] []).map (fun x=>(x.1,x.2.2))=some (.bool false,andT (andT true a.1) !decide (a.name≥0)):=by kernel_rfl
theorem lf_2 (a:Nod):(callS Tryz.prog (usC [(4,true),(8,true),(13,false)]) 60 Tryz.f59 [.agg a.cells] []).map (fun x=>(x.1,x.2.2))=some (.bool false,andT (andT (andT true a.1) (decide (a.name≥0))) !decide (a.name≤255)):=by kernel_rfl
theorem lf_3 (a:Nod):(callS Tryz.prog (usC [(4,true),(8,true),(13,true)]) 60 Tryz.f59 [.agg a.cells] []).map (fun x=>(x.1,x.2.2))=some (.bool ((a.un.length:Int)==0),andT (andT (andT true a.1) (decide (a.name≥0))) (decide (a.name≤255))):=by kernel_rfl
def ancV (n y:Int):Nat→Int
 |0=>y
 |j+1=>parV (ancV n y j) n
def depN (n:Nat) (y:Int):Nat:=((List.range 8).find? fun j=>decide (ancV n y j<0)).getD 8
theorem dep_all:(sizes.all fun n=>(List.range (2*n-1)).all fun y=>decide (ancV n ((y:Nat):Int) (depN n ((y:Nat):Int))<0)&&(List.range (depN n ((y:Nat):Int))).all fun j=>nodeB (ancV n ((y:Nat):Int) j) n&&decide (ancV n ((y:Nat):Int) j≥0))=true:=by decide+kernel
def abvB (x y:Int) (n:Nat):Bool:=scanV (fun j=>!(ancV n y j==x)) (depN n y) (fun _=>true) false
theorem rAbove_fn {x y:Int} {n:Nat} (hx:nodeB x n=true) (hy:nodeB y n=true):FnTr Tryz.prog 76 [.int .i64 x,.int .i64 y,.int .i64 ((n:Nat):Int)] [] (.bool (abvB x y n)) []:=by
 obtain ⟨m,hm,y',h1,rfl,h2⟩:=nodeB_iff hy
 obtain rfl:n=m:=by omega
 have hz:sizeB (n:Int)=true:=List.any_eq_true.2 ⟨n,hm,decide_eq_true rfl⟩
 have hd:=List.all_eq_true.1 (List.all_eq_true.1 dep_all n hm) y' (List.mem_range.2 h2)
 obtain ⟨d1,d2⟩:=Bool.and_eq_true_iff.1 hd
 have d3:∀j,j<depN n ((y':Nat):Int)→nodeB (ancV n ((y':Nat):Int) j) n=true∧decide (ancV n ((y':Nat):Int) j≥0)=true:=fun j hj=>Bool.and_eq_true_iff.1 (List.all_eq_true.1 d2 j (List.mem_range.2 hj))
 have key:=FnTr.scan (P:=Tryz.prog) (args:=[.int .i64 x,.int .i64 ((y':Nat):Int),.int .i64 ((n:Nat):Int)]) (h:=[]) (h':=[]) Tryz.func76 rfl 4 0 (fun j:Nat=>abS x n (ancV n ((y':Nat):Int) j)) (fun j=>!(ancV n ((y':Nat):Int) j==x)) (depN n ((y':Nat):Int))
  (fun z s' g=>TrL.itemsX (abC_ok []) 60 4 _ 0 (by simp) (s1:=abS x n y') _ (ab_head x y' n) (ab_head' x y' n) (by rw [hz,hx,hy];rfl) (by decide) rfl g) (by decide) (by kernel_rfl)
  (fun j hj hb _=>?_) (fun i=>bS 27 6 true) (fun i=>[.bool true]) (fun j hj hb _=>⟨?_,rfl,rfl⟩) (sE:=⟨slotsOf 27 [],[],true⟩) (sE':=bS 27 6 false) (vE:=[.bool false]) (xE:=.ret) (fun _=>?_) (fun _=>⟨?_,.inl rfl,rfl,rfl⟩)
 ·rw [oneOf_scan (g:=SV.bool) (vF:=fun _:Nat=>true) (vE:=false)] at key
  exact key
 ·obtain ⟨q1,q2⟩:=d3 j hj
  exact Tr.cutX (abC_ok [(20,true),(26,false)]) 60 _ 0 (Nat.le_refl _) (s':=abS x n (ancV n ((y':Nat):Int) (j+1))) _ (ab_go x n _) (ab_go' x n _) (by
   rw [q1,q2,hb,decide_eq_true (show (0:Int)≤(n:Int) by omega)];rfl)
 ·obtain ⟨q1,q2⟩:=d3 j hj
  have hb':(ancV n ((y':Nat):Int) j==x)=true:=by simpa using hb
  exact Tr.cutX (abC_ok [(20,true),(26,true)]) 60 _ 0 (Nat.le_refl _) (s':=bS 27 6 true) _ (ab_is x n _) (ab_is' x n _) (by rw [q2,hb'];rfl)
 ·have d4:=of_decide_eq_true d1
  exact Tr.cutX (abC_ok [(20,false)]) 60 _ 0 (Nat.le_refl _) (s':=⟨slotsOf 27 [],[],true⟩) _ (ab_end x n _) (ab_end' x n _) (by rw [decide_eq_false (by omega)];rfl)
 ·exact TrL.rest (abC_ok []) 60 (by kernel_rfl) rfl
def inQ (x:Int) (l:List Int):Bool:=scanV (fun i=>!(l.getD i 0==x)) l.length (fun _=>true) false
theorem rIn_fn {x:Int} {l:List Int} (h:l.length≤274877906944):FnTr Tryz.prog 75 [.int .i64 x,.ro false .i64 l] [] (.bool (inQ x l)) []:=by
 have key:=FnTr.scan (P:=Tryz.prog) (args:=[.int .i64 x,.ro false .i64 l]) (h:=[]) (h':=[]) Tryz.func75 rfl 2 0 (fun j:Nat=>inS x l ((j:Nat):Int)) (fun i=>!(l.getD i 0==x)) l.length
  (fun z s' g=>TrL.itemsX (usC_ok []) 60 2 _ 0 (by simp) (s1:=inS x l ((0:Nat):Int)) _ (in_head x l) (in_head' x l) rfl (by decide) rfl g) (by decide) (by kernel_rfl)
  (fun j hj hb _=>?_) (fun i=>bS 18 4 true) (fun i=>[.bool true]) (fun j hj hb _=>⟨?_,rfl,rfl⟩) (sE:=⟨slotsOf 18 [],[],true⟩) (sE':=bS 18 4 false) (vE:=[.bool false]) (xE:=.ret) (fun _=>?_) (fun _=>⟨?_,.inl rfl,rfl,rfl⟩)
 ·rw [oneOf_scan (g:=SV.bool) (vF:=fun _:Nat=>true) (vE:=false)] at key
  exact key
 ·have e:=in_go x l j
  rw [wrapS (by omega)] at e
  exact Tr.cutX (usC_ok [(9,true),(17,false)]) 60 _ 0 (Nat.le_refl _) (s':=inS x l ((j+1:Nat):Int)) _ e (in_go' x l j) (by
   rw [Int.toNat_natCast,ltN hj,inBN hj,decide_eq_true hj,hb];rfl)
 ·have hb':(l.getD j 0==x)=true:=by simpa using hb
  exact Tr.cutX (usC_ok [(9,true),(17,true)]) 60 _ 0 (Nat.le_refl _) (s':=bS 18 4 true) _ (in_is x l j) (in_is' x l j) (by
   rw [Int.toNat_natCast,ltN hj,inBN hj,decide_eq_true hj,hb'];rfl)
 ·exact Tr.cutX (usC_ok [(9,false)]) 60 _ 0 (Nat.le_refl _) (s':=⟨slotsOf 18 [],[],true⟩) _ (in_end x l _) (in_end' x l _) (by rw [nltN (Nat.le_refl _)];rfl)
 ·exact TrL.rest (usC_ok []) 60 (by kernel_rfl) rfl
theorem rUsed_fn {N fr:Nat} {t:Nat→Nod} (h:N≤274877906944) (hf:fr≤274877906944):FnTr Tryz.prog 57 [.rol false 99 N (tng t),.int .i64 ((fr:Nat):Int)] [] (.bool (!emptyB N t fr)) []:=by
 have key:=FnTr.scan (P:=Tryz.prog) (args:=[.rol false 99 N (tng t),.int .i64 ((fr:Nat):Int)]) (h:=[]) (h':=[]) Tryz.func57 rfl 2 0 (fun j:Nat=>ruS N t ((2*fr+2*j:Nat):Int)) (fun j=>!(t (2*fr+2*j)).used) ((N+1-2*fr)/2)
  (fun x s' g=>TrL.itemsX (usC_ok []) 60 2 _ 0 (by simp) (s1:=ruS N t ((2*fr+2*0:Nat):Int)) _ (by have:=ru_head N t fr;rw [wrapI (by omega) (by omega)] at this;rw [show ((2*fr+2*0:Nat):Int)=2*(fr:Int) by omega];exact this) (ru_head' N t fr) rfl (by decide) rfl g) (by decide) (by kernel_rfl)
  (fun j hj hb _=>?_) (fun i=>bS 19 4 true) (fun i=>[.bool true]) (fun j hj hb _=>⟨?_,rfl,rfl⟩) (sE:=⟨slotsOf 19 [],[],true⟩) (sE':=bS 19 4 false) (vE:=[.bool false]) (xE:=.ret) (fun _=>?_) (fun _=>⟨?_,.inl rfl,rfl,rfl⟩)
 ·rw [oneOf_scan (g:=SV.bool) (vF:=fun _:Nat=>true) (vE:=false)] at key
  have hv:scanV (fun j=>!(t (2*fr+2*j)).used) ((N+1-2*fr)/2) (fun _=>true) false=!emptyB N t fr:=by
   unfold scanV emptyB;rw [←firstN_all];cases firstN _ _<;>rfl
  rw [hv] at key;exact key
 ·have e:=ru_go N t ((2*fr+2*j:Nat):Int)
  rw [wrapI (by omega) (by omega),show ((2*fr+2*j:Nat):Int)+2=((2*fr+2*(j+1):Nat):Int) by omega] at e
  have hlt:2*fr+2*j<N:=by omega
  exact Tr.cutX (usC_ok [(11,true),(18,false)]) 60 _ 0 (Nat.le_refl _) (s':=ruS N t ((2*fr+2*(j+1):Nat):Int)) _ e (ru_go' N t _) (by
   rw [Int.toNat_natCast,ltN hlt,inBN hlt,decide_eq_true hlt,show (!(t (2*fr+2*j)).1)=true from hb];rfl)
 ·have hlt:2*fr+2*j<N:=by omega
  have hb':(t (2*fr+2*j)).used=true:=by simpa using hb
  exact Tr.cutX (usC_ok [(11,true),(18,true)]) 60 _ 0 (Nat.le_refl _) (s':=bS 19 4 true) _ (ru_is N t _) (ru_is' N t _) (by
   rw [Int.toNat_natCast,ltN hlt,inBN hlt,decide_eq_true hlt,show (t (2*fr+2*j)).1=true from hb'];rfl)
 ·exact Tr.cutX (usC_ok [(11,false)]) 60 _ 0 (Nat.le_refl _) (s':=⟨slotsOf 19 [],[],true⟩) _ (ru_end N t _) (ru_end' N t _) (by rw [nltN (by omega)];rfl)
 ·exact TrL.rest (usC_ok []) 60 (by kernel_rfl) rfl
theorem rLeaf_fn (a:Nod):FnTr Tryz.prog 59 [.agg a.cells] [] (.bool (lfB a.used a.name a.un)) []:=by
 unfold lfB
 cases h0:a.used with
 |false=>exact call0 (usC_ok _) 60 Tryz.func59 (lf_0 a) (by rw [h0];rfl) rfl
 |true=>
  cases h1:decide (a.name≥0) with
  |false=>exact call0 (usC_ok _) 60 Tryz.func59 (lf_1 a) (by rw [h0,h1];rfl) rfl
  |true=>
   cases h2:decide (a.name≤255) with
   |false=>exact call0 (usC_ok _) 60 Tryz.func59 (lf_2 a) (by rw [h0,h1,h2];rfl) rfl
   |true=>exact call0 (usC_ok _) 60 Tryz.func59 (lf_3 a) (by rw [h0,h1,h2];rfl) rfl
end Go.Proofs.YthlnlcijnoadcaaGreatDoor.Tr
