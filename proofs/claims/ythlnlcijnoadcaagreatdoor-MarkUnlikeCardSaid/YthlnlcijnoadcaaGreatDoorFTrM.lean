/- This file proves the contract of tree's Check, from its runs. Conditions: a tree of 71 nodes at most. -/
import Derived.Test.YthlnlcijnoadcaaGreatDoorFTrL
set_option linter.all false
namespace Go.Proofs.YthlnlcijnoadcaaGreatDoor.Tr
open Go Go.Sy
def nmL (t:Nat→Nod):Nat→List (Int×Int)
 |0=>[]
 |i+1=>bif (t i).used&&(i%2==0) then setL (nmL t i) (t i).name (IntKind.i64.wrap (getI (nmL t i) (t i).name+1)) else nmL t i
def blankB (x:Nod):Bool:=sameB x.used false x.name 0 x.key x.sign x.par x.un (List.replicate 32 0) (List.replicate 32 0) (List.replicate 32 0) []
def goodJ (t:Nat→Nod) (n i:Nat):Bool:=bif !(t i).used then blankB (t i) else bif i%2==0 then lfB (t i).used (t i).name (t i).un&&(getI (nmL t (i+1)) (t i).name==1) else upperB t i n
def checkB (N:Nat) (t:Nat→Nod):Bool:=!(leavesV N==0)&&((List.range N).all (goodJ t (leavesV N).toNat)&&!emptyB N t (IntKind.i64.wrap ((leavesV N).tdiv 2)).toNat)
theorem ckL_eq:ckL=[sqA ckL,sqA (sqB ckL)].foldr .seq (.seq (.block 1 ckI) (sqB (sqB (sqB ckL)))):=by kernel_rfl
theorem ckI_eq:ckI=[sqA ckI,sqA (sqB ckI)].foldr .seq (.seq (.block 2 ckJ) (sqB (sqB (sqB ckI)))):=by kernel_rfl
theorem ckJ_eq:ckJ=[sqA ckJ].foldr .seq (.cond (.tmp 26) (cdA (sqB ckJ)) ckE):=by kernel_rfl
theorem ckE_eq:ckE=[sqA ckE].foldr .seq (.cond (.tmp 33) ckT (cdB (sqB ckE))):=by kernel_rfl
theorem ckT_eq:ckT= .seq (.region 13 (opsOf (sqA ckT)) false) (.region 14 (opsOf (sqB ckT)) false):=by kernel_rfl
theorem ckR_eq:ckR= .seq (.seq (sqA (sqA ckR)) (.block 0 (.loop ckL))) (sqB ckR):=by kernel_rfl
theorem ckB_eq:ckB=[sqA ckB,sqA (sqB ckB),sqA (sqB (sqB ckB))].foldr .seq (.seq (.region 4 (opsOf (sqA (sqB (sqB (sqB ckB))))) false) ckR):=by kernel_rfl
theorem parN (i:Nat):(((i:Nat):Int).tmod 2==0)=(i%2==0):=by
 rw [show (2:Int)=((2:Nat):Int) from rfl, ←Int.ofNat_tmod]
 cases h:(i%2==0) with
 |true=>rw [eq_of_beq h];rfl
 |false=>
  rw [beq_eq_false_iff_ne] at h ⊢
  omega
section
variable {N:Nat} {t:Nat→Nod} {n i m:Nat}
theorem ck_leaf (l:List (Int×Int)) (b:Bool) (hb:lfB (t i).used (t i).name (t i).un=b):
  TrX Tryz.prog none 0 ckT (ckN N t n m i [(33,.bool true)]) (MapH m l) .normal (ckN N t n m i [(7,.bool (b&&(getI (setL l (t i).name (IntKind.i64.wrap (getI l (t i).name+1))) (t i).name==1)))]) (MapH m (setL l (t i).name (IntKind.i64.wrap (getI l (t i).name+1)))):=by
 have K:=MapH.keeps m
 have F:=MapH.free m
 have hu:Tryz.prog.underlying 170=some (.map 3 3):=by kernel_rfl
 have hk:Tryz.prog.underlying 3=some (.int .i64):=by kernel_rfl
 have hz:zeroOf Tryz.prog 3=some (.int .i64 0):=by kernel_rfl
 rw [ckT_eq]
 refine TrX.seq (H1:=MapH m (setL l (t i).name (IntKind.i64.wrap (getI l (t i).name+1)))) (s1:=ckN N t n m i [(37,.nl (.map (some m))),(39,.int .i64 (t i).name),(41,.int .i64 (IntKind.i64.wrap (getI l (t i).name+1)))]) (TrX.region 13 ?_) (TrX.region 14 ?_)
 ·rw [show List.range (opsOf (sqA ckT)).size=[0,1,2]++([3]++([4]++[5])) by kernel_rfl]
  refine OX.append (OX.runX (ckC_ok true []) (K l) (F l) 60 _ 1 (by decide) _ (ck_o1 N t n m i true) (ck_o1' N t n m i true) rfl (s':=ckN N t n m i [(37,.nl (.map (some m))),(39,.int .i64 (t i).name)])) ?_
  refine OX.append (OX.ask (dst:=some 40) (t:=170) (xm:=.tmp 37) (xk:=.tmp 39) (by kernel_rfl) (by kernel_rfl) hu hk hz (by kernel_rfl) (x:=(t i).name) (by kernel_rfl)) ?_
  exact OX.append (OX.runX (ckC_ok true []) (K l) (F l) 60 _ 1 (by decide) _ (ck_o2 N t n m i _) (ck_o2' N t n m i _) rfl) (OX.write (t:=170) (xm:=.tmp 37) (xk:=.tmp 39) (xv:=.tmp 41) (by kernel_rfl) (by kernel_rfl) hu hk (by kernel_rfl) (by kernel_rfl) (by kernel_rfl))
 ·cases b with
  |false=>
   exact OX.runX (ckC_ok false []) (K _) (F _) 60 _ 1 (by decide) _ (ck_o5 N t n m i _) (ck_o5' N t n m i _) (by rw [Int.toNat_natCast,hb];rfl)
  |true=>
   rw [show List.range (opsOf (sqB ckT)).size=[0,1,2,3,4,5]++([6]++[7,8,9]) by kernel_rfl]
   refine OX.append (OX.runX (ckC_ok true []) (K _) (F _) 60 _ 1 (by decide) _ (ck_o3 N t n m i _) (ck_o3' N t n m i _) (by rw [Int.toNat_natCast,hb];rfl) (s':=ckN N t n m i [(44,.bool true),(45,.nl (.map (some m))),(47,.int .i64 (t i).name)])) ?_
   refine OX.append (OX.ask (dst:=some 48) (t:=170) (xm:=.tmp 45) (xk:=.tmp 47) (by kernel_rfl) (by kernel_rfl) hu hk hz (by kernel_rfl) (x:=(t i).name) (by kernel_rfl)) ?_
   exact OX.runX (ckC_ok true []) (K _) (F _) 60 _ 1 (by decide) _ (ck_o4 N t n m i _) (ck_o4' N t n m i _) rfl
theorem nat_parts (hT:TOK N t) (hi:i<N):lensB (t i).key (t i).sign (t i).par (t i).un=true:=lensB_iff.2 ⟨hT.key i hi,hT.sign i hi,hT.par i hi,hT.un i hi⟩
theorem seat_mk (hn:n∈sizes) (hN:N=2*n-1) (hi:i<N):seatOK N i n=true:=by
 refine List.any_eq_true.2 ⟨n,hn,?_⟩
 have hs:=sizes_le hn
 simp only [Bool.and_eq_true,decide_eq_true_eq]
 refine ⟨⟨trivial,hN⟩,List.any_eq_true.2 ⟨n,hn,?_⟩⟩
 simp only [Bool.and_eq_true,decide_eq_true_eq]
 refine ⟨⟨trivial,?_⟩,?_⟩<;>omega
theorem ck_step (hT:TOK N t) (hi:i<N):IntKind.i64.wrap ((i:Nat)+1:Int)=((i+1:Nat):Int):=by
 have:=hT.le
 rw [wrapS (by omega)]
theorem ck_l3f (hu:(t i).used=true):resX (cutR [0,3,4,5,6,15,16,17,26] 1 ((execL Tryz.prog (ckC true []) 60 1 1 [sqA ckJ] (ckN N t n m i [])).map fun s=>(Exit.normal,s)))=some (.normal,(ckN N t n m i [(26,.bool false)]).t,(ckN N t n m i [(26,.bool false)]).h):=by
 have h:(!(t ((i:Nat):Int).toNat).used)=false:=by rw [Int.toNat_natCast,hu];rfl
 rw [ck_l3 N t n m i,h]
 rfl
theorem ck_l4f (hp:(i%2==0)=true):resX (cutR [0,3,4,5,6,15,16,17,33] 1 ((execL Tryz.prog (ckC true []) 60 1 1 [sqA ckE] (ckN N t n m i [(26,.bool false)])).map fun s=>(Exit.normal,s)))=some (.normal,(ckN N t n m i [(33,.bool true)]).t,(ckN N t n m i [(33,.bool true)]).h):=by
 rw [ck_l4 N t n m i false,parN,hp]
 rfl
theorem ck_good (hT:TOK N t) (hn:n∈sizes) (hN:N=2*n-1) (hi:i<N) (hg:goodJ t n i=true):
  TrX Tryz.prog none 0 ckL (ckS N t n m i) (MapH m (nmL t i)) .normal (ckS N t n m ((i+1:Nat):Int)) (MapH m (nmL t (i+1))):=by
 have K:=MapH.keeps m
 have F:=MapH.free m
 have hst:=ck_step hT hi
 have hlt:=ltN hi
 have hin:=inBN hi
 have hle:=hT.le
 unfold goodJ at hg
 cases hu:(t i).used with
 |false=>
  rw [hu] at hg
  simp only [Bool.not_false,cond_true] at hg
  have e:=ck_u1 N t n m i
  rw [hst] at e
  have:nmL t (i+1)=nmL t i:=by simp only [nmL,hu,Bool.false_and,cond_false]
  rw [this]
  refine TrX.cutX (ckC_ok true _) (K _) (F _) 60 _ 0 (Nat.le_refl _) _ e (ck_u1' N t n m i) ?_
  rw [Int.toNat_natCast,hlt,hin,decide_eq_true hi,nat_parts hT hi,show (t i).1=false from hu]
  unfold blankB at hg
  rw [hu] at hg
  rw [hg];rfl
 |true=>
  rw [hu] at hg
  simp only [Bool.not_true,cond_false] at hg
  cases hp:(i%2==0) with
  |false=>
   rw [hp] at hg
   simp only [cond_false] at hg
   have e:=ck_p1 N t n m i
   rw [hst] at e
   have:nmL t (i+1)=nmL t i:=by simp only [nmL,hp,Bool.and_false,cond_false]
   rw [this]
   refine TrX.cutX (ckC_ok true _) (K _) (F _) 60 _ 0 (Nat.le_refl _) _ e (ck_p1' N t n m i) ?_
   rw [Int.toNat_natCast,hlt,hin,decide_eq_true hi,show (t i).1=true from hu,parN,hp,show okT N (fun i=>coolL (tng t i))=true from okT_tng hT,seat_mk hn hN hi,Int.toNat_natCast,show upperB (treeOf fun i=>coolL (tng t i)) i n=true from hg]
   rfl
  |true=>
   rw [hp] at hg
   simp only [cond_true] at hg
   have hnm:nmL t (i+1)=setL (nmL t i) (t i).name (IntKind.i64.wrap (getI (nmL t i) (t i).name+1)):=by simp only [nmL,hu,hp,Bool.and_self,cond_true]
   rw [hnm] at hg ⊢
   obtain ⟨h1,h2⟩:=Bool.and_eq_true_iff.1 hg
   have X:=ck_leaf (N:=N) (t:=t) (i:=i) (n:=n) (m:=m) (nmL t i) true (by rw [hu];exact h1)
   rw [h2] at X
   have hl5:=ck_l5 N t n m i
   rw [hst] at hl5
   rw [ckL_eq]
   refine TrX.heads (ckC_ok true [(18,true)]) (K _) (F _) 60 _ 0 (Nat.le_refl _) _ (ck_l1 N t n m i) (ck_l1' N t n m i) (by rw [hlt];rfl) ?_
   refine TrX.seq (s1:=ckS N t n m i) (TrX.block_pass ?_ (by simp)) (TrX.cutX (ckC_ok true []) (K _) (F _) 60 _ 0 (Nat.le_refl _) _ hl5 (ck_l5' N t n m i) rfl)
   rw [ckI_eq]
   refine TrX.heads (ckC_ok true []) (K _) (F _) 60 _ 1 (by decide) _ (s1:=ckN N t n m i []) (ck_l2 N t n m i) (ck_l2' N t n m i) (by rw [Int.toNat_natCast,hin,decide_eq_true hi];rfl) ?_
   refine TrX.seq (s1:=ckN N t n m i [(7,.bool true)]) (TrX.block_pass ?_ (by simp)) (TrX.cutX (ckC_ok true [(52,false)]) (K _) (F _) 60 _ 0 (Nat.le_refl _) _ (ck_t1 N t n m i true) (ck_t1' N t n m i true) rfl)
   rw [ckJ_eq]
   refine TrX.heads (ckC_ok true []) (K _) (F _) 60 _ 1 (by decide) _ (s1:=ckN N t n m i [(26,.bool false)]) (ck_l3f hu) (ck_l3' N t n m i) rfl ?_
   refine TrX.cond_false (by kernel_rfl) ?_
   rw [ckE_eq]
   refine TrX.heads (ckC_ok true []) (K _) (F _) 60 _ 1 (by decide) _ (s1:=ckN N t n m i [(33,.bool true)]) (ck_l4f hp) (ck_l4' N t n m i false) rfl ?_
   exact TrX.cond_true (by kernel_rfl) X
theorem ck_bad (hT:TOK N t) (hn:n∈sizes) (hN:N=2*n-1) (hi:i<N) (hg:goodJ t n i=false):
  TrX Tryz.prog none 0 ckL (ckS N t n m i) (MapH m (nmL t i)) .ret (ckZ errV) (fun _ _ _=>True):=by
 have K:=MapH.keeps m
 have F:=MapH.free m
 have hlt:=ltN hi
 have hin:=inBN hi
 have hle:=hT.le
 unfold goodJ at hg
 cases hu:(t i).used with
 |false=>
  rw [hu] at hg
  simp only [Bool.not_false,cond_true] at hg
  refine TrX.weak (TrX.cutX (ckC_ok true _) (K _) (F _) 60 _ 0 (Nat.le_refl _) _ (ck_u0 N t n m i) (ck_u0' N t n m i) ?_) fun _ _ _ _=>trivial
  rw [Int.toNat_natCast,hlt,hin,decide_eq_true hi,nat_parts hT hi,show (t i).1=false from hu]
  unfold blankB at hg
  rw [hu] at hg
  rw [hg];rfl
 |true=>
  rw [hu] at hg
  simp only [Bool.not_true,cond_false] at hg
  cases hp:(i%2==0) with
  |false=>
   rw [hp] at hg
   simp only [cond_false] at hg
   refine TrX.weak (TrX.cutX (ckC_ok true _) (K _) (F _) 60 _ 0 (Nat.le_refl _) _ (ck_p0 N t n m i) (ck_p0' N t n m i) ?_) fun _ _ _ _=>trivial
   rw [Int.toNat_natCast,hlt,hin,decide_eq_true hi,show (t i).1=true from hu,parN,hp,show okT N (fun i=>coolL (tng t i))=true from okT_tng hT,seat_mk hn hN hi,Int.toNat_natCast,show upperB (treeOf fun i=>coolL (tng t i)) i n=false from hg]
   rfl
  |true=>
   rw [hp] at hg
   simp only [cond_true] at hg
   have hnm:nmL t (i+1)=setL (nmL t i) (t i).name (IntKind.i64.wrap (getI (nmL t i) (t i).name+1)):=by simp only [nmL,hu,hp,Bool.and_self,cond_true]
   rw [hnm] at hg
   have X:=ck_leaf (N:=N) (t:=t) (i:=i) (n:=n) (m:=m) (nmL t i) _ rfl
   rw [hu,hg] at X
   rw [ckL_eq]
   refine TrX.heads (ckC_ok true [(18,true)]) (K _) (F _) 60 _ 0 (Nat.le_refl _) _ (ck_l1 N t n m i) (ck_l1' N t n m i) (by rw [hlt];rfl) ?_
   refine TrX.seq_leave (TrX.block_pass ?_ (by simp)) (by simp)
   rw [ckI_eq]
   refine TrX.heads (ckC_ok true []) (K _) (F _) 60 _ 1 (by decide) _ (s1:=ckN N t n m i []) (ck_l2 N t n m i) (ck_l2' N t n m i) (by rw [Int.toNat_natCast,hin,decide_eq_true hi];rfl) ?_
   refine TrX.seq (s1:=ckN N t n m i [(7,.bool false)]) (TrX.block_pass ?_ (by simp)) (TrX.weak (TrX.cutX (ckC_ok true [(52,true)]) (K (setL (nmL t i) (t i).name (IntKind.i64.wrap (getI (nmL t i) (t i).name+1)))) (F _) 60 _ 0 (Nat.le_refl _) _ (ck_t0 N t n m i false) (ck_t0' N t n m i false) rfl) fun _ _ _ _=>trivial)
   rw [ckJ_eq]
   refine TrX.heads (ckC_ok true []) (K _) (F _) 60 _ 1 (by decide) _ (s1:=ckN N t n m i [(26,.bool false)]) (ck_l3f hu) (ck_l3' N t n m i) rfl ?_
   refine TrX.cond_false (by kernel_rfl) ?_
   rw [ckE_eq]
   refine TrX.heads (ckC_ok true []) (K _) (F _) 60 _ 1 (by decide) _ (s1:=ckN N t n m i [(33,.bool true)]) (ck_l4f hp) (ck_l4' N t n m i false) rfl ?_
   exact TrX.cond_true (by kernel_rfl) X
theorem ck_last:TrX Tryz.prog none 0 ckL (ckS N t n m ((N:Nat):Int)) (MapH m (nmL t N)) (.exit 0) (ckM N t n []) (MapH m (nmL t N)):=
 TrX.cutX (ckC_ok true [(18,false)]) (MapH.keeps _ _) (MapH.free _ _) 60 _ 0 (Nat.le_refl _) _ (ck_end N t n m N) (ck_end' N t n m N) (by rw [nltN (Nat.le_refl _)];rfl)
theorem ck_rest (hT:TOK N t) (hn:n∈sizes) (hN:N=2*n-1) (m:Nat):
  TrX Tryz.prog none 0 ckR (ckM N t n [(4,.nl (.map (some m)))]) (MapH m []) .ret (ckZ (bif (List.range N).all (goodJ t n)&&!emptyB N t (IntKind.i64.wrap ((n:Int).tdiv 2)).toNat then .nl .nilIface else errV)) (fun _ _ _=>True):=by
 have hs:=sizes_le hn
 have K:=MapH.keeps m
 have F:=MapH.free m
 have hinit:TrX Tryz.prog none 0 (sqA (sqA ckR)) (ckM N t n [(4,.nl (.map (some m)))]) (MapH m []) .normal (ckS N t n m ((0:Nat):Int)) (MapH m (nmL t 0)):=
  TrX.cutX (ckC_ok true []) (K []) (F []) 60 _ 0 (Nat.le_refl _) _ (ck_init N t n m) (ck_init' N t n m) rfl
 rw [ckR_eq]
 cases hq:firstN (goodJ t n) N with
 |some i=>
  obtain ⟨h1,h2,h3⟩:=find_range hq
  have hall:(List.range N).all (goodJ t n)=false:=by
   rw [←Bool.not_eq_true,List.all_eq_true]
   intro h
   rw [h i (List.mem_range.2 h1)] at h2
   cases h2
  rw [hall]
  exact TrX.seq_leave (TrX.seq hinit (TrX.block_pass (TrRX.loop (TrRX.for (by simp) (fun j:Nat=>ckS N t n m ((j:Nat):Int)) (fun j=>MapH m (nmL t j)) i (fun j hj=>ck_good hT hn hN (by omega) (h3 j hj)) (ck_bad hT hn hN h1 h2))) (by simp))) (by simp)
 |none=>
  have h3:=firstN_none hq
  have hall:(List.range N).all (goodJ t n)=true:=List.all_eq_true.2 fun i hi=>h3 i (List.mem_range.1 hi)
  rw [hall,Bool.true_and]
  refine TrX.seq (TrX.seq hinit (TrX.block (TrRX.loop (TrRX.for (by simp) (fun j:Nat=>ckS N t n m ((j:Nat):Int)) (fun j=>MapH m (nmL t j)) N (fun j hj=>ck_good hT hn hN hj (h3 j hj)) ck_last)))) ?_
  have hw:0≤IntKind.i64.wrap ((n:Int).tdiv 2)∧IntKind.i64.wrap ((n:Int).tdiv 2)≤71:=by
   have:(n:Int).tdiv 2=((n/2:Nat):Int):=rfl
   rw [this,wrapI (by omega) (by omega)]
   omega
  cases he:emptyB N t (IntKind.i64.wrap ((n:Int).tdiv 2)).toNat with
  |true=>
   refine TrX.weak (TrX.cutX (ckC_ok true [(58,true)]) (K _) (F _) 60 _ 0 (Nat.le_refl _) _ (ck_z0 N t n) (ck_z0' N t n) ?_) fun _ _ _ _=>trivial
   rw [show okT N (fun i=>coolL (tng t i))=true from okT_tng hT,decide_eq_true hT.le,decide_eq_true hw.1,decide_eq_true hw.2,show emptyB N (treeOf fun i=>coolL (tng t i)) (IntKind.i64.wrap ((n:Int).tdiv 2)).toNat=true from he]
   rfl
  |false=>
   refine TrX.weak (TrX.cutX (ckC_ok true [(58,false)]) (K _) (F _) 60 _ 0 (Nat.le_refl _) _ (ck_z1 N t n) (ck_z1' N t n) ?_) fun _ _ _ _=>trivial
   rw [show okT N (fun i=>coolL (tng t i))=true from okT_tng hT,decide_eq_true hT.le,decide_eq_true hw.1,decide_eq_true hw.2,show emptyB N (treeOf fun i=>coolL (tng t i)) (IntKind.i64.wrap ((n:Int).tdiv 2)).toNat=false from he]
   rfl
theorem leaves_sizes0:((List.range 72).all fun N=>leavesV (N:Nat)==0||sizes.any fun n=>leavesV (N:Nat)==(n:Nat)&&decide (N=2*n-1))=true:=by decide+kernel
theorem leaves_sizes (hN:N≤71) (h:(leavesV N==0)=false):∃n∈sizes,leavesV N=(n:Int)∧N=2*n-1:=by
 have g:=List.all_eq_true.1 leaves_sizes0 N (List.mem_range.2 (by omega))
 rw [h,Bool.false_or] at g
 obtain ⟨n,hn,g⟩:=List.any_eq_true.1 g
 rw [Bool.and_eq_true,beq_iff_eq,decide_eq_true_eq] at g
 exact ⟨n,hn,g⟩
theorem check_fn (hT:TOK N t):FnTr Tryz.prog 77 [trV N t] [] (bif checkB N t then .nl .nilIface else errV) []:=by
 unfold checkB
 cases h0:(leavesV N==0) with
 |true=>exact call0 (ckC_ok true [(12,true)]) 60 Tryz.func77 (ck_none N t) (by rw [h0];rfl) rfl
 |false=>
  obtain ⟨n,hn,hv,hN⟩:=leaves_sizes hT.le h0
  have hh:Keeps (fun _ _ _=>True):=fun _ _ _ _ _ _ _ _ _ _ _=>trivial
  have key:TrX Tryz.prog none 0 ckB ⟨slots0 Tryz.f77.ntmps [trV N t],[],true⟩ (fun _ _ _=>True) .ret (ckZ (bif (List.range N).all (goodJ t n)&&!emptyB N t (IntKind.i64.wrap ((n:Int).tdiv 2)).toNat then .nl .nilIface else errV)) (fun _ _ _=>True):=by
   rw [ckB_eq]
   refine TrX.heads (ckC_ok true [(12,false)]) hh (fun _ _ _ _ _=>trivial) 60 _ 0 (Nat.le_refl _) _ (s1:=ckM N t n []) (by have:=ck_head N t;rw [hv] at this;exact this) (ck_head' N t) (by rw [h0];rfl) ?_
   refine OXE.region 4 (F:=fun m=>ckM N t n [(4,.nl (.map (some m)))]) (G:=fun m=>MapH m []) ?_ fun m=>ck_rest hT hn hN m
   rw [show List.range (opsOf (sqA (sqB (sqB (sqB ckB))))).size=[0]++[1] by kernel_rfl]
   exact OXE.append (OXE.make (dst:=some 14) (t:=170) (by kernel_rfl) (by kernel_rfl)) fun m=>OX.runX (ckC_ok true []) (MapH.keeps m []) (MapH.free m []) 60 _ 0 (Nat.le_refl _) _ (ck_mk N t n m) (ck_mk' N t n m) rfl
  have h2:∀(b:Bool) (v:SV),resS Tryz.prog (ckZ v).t (ckZ v).h Tryz.f77.results.toList=some ([v],true):=fun _ v=>by kernel_rfl
  rw [hv,Int.toNat_natCast,Bool.not_false,Bool.true_and]
  exact FnTr.of_Tr (args:=[trV N t]) (h:=[]) (s:=ckZ _) Tryz.func77 (c:=ckB) (by kernel_rfl) (.inl rfl) (key.to fun _ _ _=>trivial) (h2 true _)
end
noncomputable def checkE (b:Bool):Entry Tryz.prog:=.val 77 _ Tryz.func77 (by decide) rfl true 0 (fun vs=>match vs with
 | [.rol false 99 N g]=>some (bif b then .nl .nilIface else errV,[],okT N g&&decide (N≤71)&&(checkB N (treeOf g)==b))
 |_=>none) fun vs v new e=>by
 split at e
 ·simp only [Option.some.injEq,Prod.mk.injEq,Bool.and_eq_true,decide_eq_true_eq,beq_iff_eq] at e
  obtain ⟨rfl,rfl,⟨h1,h2⟩,h3⟩:=e
  rw [←h3]
  exact FnTr.conv (check_fn (TOK.of h1 h2)) ⟨VE.tree h1,trivial⟩ trivial (VE.refl _) trivial
 ·cases e
end Go.Proofs.YthlnlcijnoadcaaGreatDoor.Tr
