/- This file holds the texts MuC, MuD, MuE, MuF, a section each. No conditions beyond those in the theorems. -/
import Derived.Test.YthlnlcijnoadcaaGreatDoorFMuP
import Derived.Test.YthlnlcijnoadcaaGreatDoorFMkQ
import Derived.Test.YthlnlcijnoadcaaGreatDoorFMkL
set_option linter.all false
set_option maxRecDepth 100000
section
namespace Go.Proofs.YthlnlcijnoadcaaGreatDoor.Mk
open Go Go.Sy Tr Wi S2
open Q2 (shortQ shortDRE By)
noncomputable def txG (X:Nat→List Int):Nat→List SV:=fun i=>[.ro true .u8 (X i)]
def txO (X:Nat→List Int):Nat→List SV:=fun i=>[.ro false .u8 (X i)]
def txOf (g:Nat→List SV):Nat→List Int:=fun i=>match g i with
 | [.ro _ .u8 xs]=>xs
 |_=>[]
def isTx:List SV→Bool
 | [.ro false .u8 _]=>true
 |_=>false
noncomputable def rText0E:Entry Tryz.prog:=.val 80 _ Tryz.func80 (by decide) rfl true 0 (fun vs=>match vs with
 | [.rol false 99 N g,.int .i64 x,.nl (.slice none 0 0)]=>some (.ro true .u8 (rtxV (treeOf g) [] x),[],okT N g&&decide (N≤71)&&rtOK N (treeOf g) [] x 8)
 |_=>none) fun vs v new e=>by
 split at e
 ·simp only [Option.some.injEq,Prod.mk.injEq,Bool.and_eq_true,decide_eq_true_eq] at e
  obtain ⟨rfl,rfl,⟨h1,h2⟩,h3⟩:=e
  exact FnTr.conv (rText_fn 8 _ _ [] _ (TOK.of h1 h2) h3) ⟨VE.tree h1,VE.refl _,VE.nilRo false .i64,trivial⟩ trivial (VE.refl _) trivial
 ·cases e
noncomputable def ttC (l:List (Nat×Bool)):Ctr:=mk (P:=Tryz.prog) [rText0E] [] (uT l)
theorem ttC_ok (l:List (Nat×Bool)):CtrSound Tryz.prog (ttC l):=mk_sound _ InlOK.nil _ _
noncomputable def ttB:Code:=bodyOf Tryz.f39
noncomputable def ttS (N:Nat) (t:Nat→Nod) (X:Nat→List Int) (n:Nat) (i:Int):St:=⟨slotsOf 18 [(0,.rol false 99 N (tng t)),(3,.rsl 0 1 n n false),(4,.int .i64 i)],[.b [.rows 1 n (txG X)]],true⟩
theorem tt_h (N:Nat) (t:Nat→Nod):resX (cutR [0,3,4] 0 ((execL Tryz.prog (ttC []) 60 0 3 (atoms ttB) ⟨slots0 Tryz.f39.ntmps [.rol false 99 N (tng t)],[],true⟩).map fun s=>(Exit.normal,s)))=some (.normal,slotsOf 18 [(0,.rol false 99 N (tng t)),(3,.nl (.slice none 0 0)),(4,.int .i64 0)],[]):=by kernel_rfl
theorem tt_h' (N:Nat) (t:Nat→Nod):obX (cutR [0,3,4] 0 ((execL Tryz.prog (ttC []) 60 0 3 (atoms ttB) ⟨slots0 Tryz.f39.ntmps [.rol false 99 N (tng t)],[],true⟩).map fun s=>(Exit.normal,s)))=(true):=by kernel_rfl
theorem tt_1 (N:Nat) (t:Nat→Nod) (X:Nat→List Int) (n:Nat) (i:Int):resX (cutR [0,3,4] 1 (exec Tryz.prog (ttC [(8,true)]) 60 0 (inner (inner (nthC 3 ttB))) (ttS N t X n i)))=some (.normal,(ttS N t X (n+1) (IntKind.i64.wrap (i+1))).t,[.b [.rows 1 (n+1) fun j=>mergeP (Nat.ble (j+1) n) (txG X j) [.ro true .u8 (rtxV t [] i)]]]):=by kernel_rfl
theorem tt_1' (N:Nat) (t:Nat→Nod) (X:Nat→List Int) (n:Nat) (i:Int):obX (cutR [0,3,4] 1 (exec Tryz.prog (ttC [(8,true)]) 60 0 (inner (inner (nthC 3 ttB))) (ttS N t X n i)))=(andT (andT (andT true (decide (i<((N:Nat):Int)))) (andT true ((okT N fun i=>coolL (tng t i))&&decide (N≤71)&&rtOK N (treeOf fun i=>coolL (tng t i)) [] i 8))) (andT (andT true (decide (n≤n))) (decide (n+1≤2^38)))):=by kernel_rfl
theorem tt_e (N:Nat) (t:Nat→Nod) (X:Nat→List Int) (n:Nat) (i:Int):resX (cutR [3] 1 (exec Tryz.prog (ttC [(8,false)]) 60 0 (inner (inner (nthC 3 ttB))) (ttS N t X n i)))=some (.exit 0,slotsOf 18 [(3,.rsl 0 1 n n false)],[.b [.rows 1 n (txG X)]]):=by kernel_rfl
theorem tt_e' (N:Nat) (t:Nat→Nod) (X:Nat→List Int) (n:Nat) (i:Int):obX (cutR [3] 1 (exec Tryz.prog (ttC [(8,false)]) 60 0 (inner (inner (nthC 3 ttB))) (ttS N t X n i)))=(andT true !decide (i<((N:Nat):Int))):=by kernel_rfl
noncomputable def coC (l:List (Nat×Bool)):Ctr:=mk (P:=Tryz.prog) [shortDRE] [] (uT l)
theorem coC_ok (l:List (Nat×Bool)):CtrSound Tryz.prog (coC l):=mk_sound _ InlOK.nil _ _
noncomputable def coB:Code:=bodyOf Tryz.f38
noncomputable def coR:Code:=sqB (sqB coB)
noncomputable def coL:Code:=inner (inner (sqB (sqA coR)))
noncomputable def coI:Code:=inner (sqA (sqB (sqB coL)))
noncomputable def coK:Code:=sqA (sqB (sqB coI))
noncomputable def coX (n:Nat) (X:Nat→List Int) (m:Nat) (i:Int) (x:List (Nat×SV)) (h:List Blk):St:=⟨slotsOf 36 ([(3,.nl (.map (some m))),(10,.rol false 1 n (txO X)),(11,.int .i64 n),(12,.int .i64 i)]++x),h,true⟩
noncomputable def coS (n:Nat) (X:Nat→List Int) (m:Nat) (i:Int):St:=coX n X m i [] []
noncomputable def coN (n:Nat) (X:Nat→List Int) (m:Nat) (i:Int) (d xs:List Int) (x:List (Nat×SV)):St:=coX n X m i ([(5,.ro false .u8 xs),(6,.ptr 0 0 0)]++x) [.b [.ints .u8 32 d]]
noncomputable def coZ (b:Bool):St:=⟨slotsOf 36 [(2,.bool b)],[],true⟩
theorem co_h (n:Nat) (X:Nat→List Int):resX (cutR [0] 0 ((execL Tryz.prog (coC []) 60 0 1 [sqA coB] ⟨slots0 Tryz.f38.ntmps [.rol false 1 n (txO X)],[],true⟩).map fun s=>(Exit.normal,s)))=some (.normal,slotsOf 36 [(0,.rol false 1 n (txO X))],[]):=by kernel_rfl
theorem co_h' (n:Nat) (X:Nat→List Int):obX (cutR [0] 0 ((execL Tryz.prog (coC []) 60 0 1 [sqA coB] ⟨slots0 Tryz.f38.ntmps [.rol false 1 n (txO X)],[],true⟩).map fun s=>(Exit.normal,s)))=(true):=by kernel_rfl
theorem co_mk (n:Nat) (X:Nat→List Int) (m:Nat):resX (cutR [0,3] 0 ((runOps Tryz.prog (callG Tryz.prog (coC []) fun k=>Sy.exec Tryz.prog (coC []) 60 k) (coC []).sym (coC []).inp 0 (opsOf (sqA (sqB coB))) [1] ⟨putT (slotsOf 36 [(0,.rol false 1 n (txO X))]) (some 9) (.nl (.map (some m))),[],true⟩).map fun s=>(Exit.normal,s)))=some (.normal,slotsOf 36 [(0,.rol false 1 n (txO X)),(3,.nl (.map (some m)))],[]):=by kernel_rfl
theorem co_mk' (n:Nat) (X:Nat→List Int) (m:Nat):obX (cutR [0,3] 0 ((runOps Tryz.prog (callG Tryz.prog (coC []) fun k=>Sy.exec Tryz.prog (coC []) 60 k) (coC []).sym (coC []).inp 0 (opsOf (sqA (sqB coB))) [1] ⟨putT (slotsOf 36 [(0,.rol false 1 n (txO X))]) (some 9) (.nl (.map (some m))),[],true⟩).map fun s=>(Exit.normal,s)))=(true):=by kernel_rfl
theorem co_i (n:Nat) (X:Nat→List Int) (m:Nat):resX (cutR [3,10,11,12] 0 (exec Tryz.prog (coC []) 60 0 (sqA (sqA coR)) ⟨slotsOf 36 [(0,.rol false 1 n (txO X)),(3,.nl (.map (some m)))],[],true⟩))=some (.normal,(coS n X m 0).t,[]):=by kernel_rfl
theorem co_i' (n:Nat) (X:Nat→List Int) (m:Nat):obX (cutR [3,10,11,12] 0 (exec Tryz.prog (coC []) 60 0 (sqA (sqA coR)) ⟨slotsOf 36 [(0,.rol false 1 n (txO X)),(3,.nl (.map (some m)))],[],true⟩))=(true):=by kernel_rfl
theorem co_e (n:Nat) (X:Nat→List Int) (m:Nat) (i:Int):resX (cutR [] 0 (exec Tryz.prog (coC [(13,false)]) 60 0 coL (coS n X m i)))=some (.exit 0,slotsOf 36 [],[]):=by kernel_rfl
theorem co_e' (n:Nat) (X:Nat→List Int) (m:Nat) (i:Int):obX (cutR [] 0 (exec Tryz.prog (coC [(13,false)]) 60 0 coL (coS n X m i)))=(andT true !decide (i<((n:Nat):Int))):=by kernel_rfl
theorem co_z (_u:Unit):resX (cutR [2] 0 (exec Tryz.prog (coC []) 60 0 (sqB coR) ⟨slotsOf 36 [],[],true⟩))=some (.ret,(coZ false).t,[]):=by kernel_rfl
theorem co_z' (_u:Unit):obX (cutR [2] 0 (exec Tryz.prog (coC []) 60 0 (sqB coR) ⟨slotsOf 36 [],[],true⟩))=(true):=by kernel_rfl
theorem co_l1 (n:Nat) (X:Nat→List Int) (m:Nat) (i:Int):resX (cutR [3,10,11,12] 0 ((execL Tryz.prog (coC [(13,true)]) 60 0 2 [sqA coL,sqA (sqB coL)] (coS n X m i)).map fun s=>(Exit.normal,s)))=some (.normal,(coS n X m i).t,[]):=by kernel_rfl
theorem co_l1' (n:Nat) (X:Nat→List Int) (m:Nat) (i:Int):obX (cutR [3,10,11,12] 0 ((execL Tryz.prog (coC [(13,true)]) 60 0 2 [sqA coL,sqA (sqB coL)] (coS n X m i)).map fun s=>(Exit.normal,s)))=(andT true (decide (i<((n:Nat):Int)))):=by kernel_rfl
theorem co_l2 (n:Nat) (X:Nat→List Int) (m:Nat) (i:Int):resX (cutR [3,5,6,10,11,12] 1 ((execL Tryz.prog (coC []) 60 0 2 [sqA coI,sqA (sqB coI)] (coS n X m i)).map fun s=>(Exit.normal,s)))=some (.normal,(coN n X m i (shortQ (X i.toNat)) (X i.toNat) []).t,(coN n X m i (shortQ (X i.toNat)) (X i.toNat) []).h):=by kernel_rfl
theorem co_l2' (n:Nat) (X:Nat→List Int) (m:Nat) (i:Int):obX (cutR [3,5,6,10,11,12] 1 ((execL Tryz.prog (coC []) 60 0 2 [sqA coI,sqA (sqB coI)] (coS n X m i)).map fun s=>(Exit.normal,s)))=(andT (andT (andT true (inB i n)) (true&&(decide (i.toNat<n)&&true))) (andT true (decide ((X i.toNat).length<274877900000)))):=by kernel_rfl
theorem co_a1 (n:Nat) (X:Nat→List Int) (m:Nat) (i:Int) (d xs:List Int):resX (cutR [3,5,6,10,11,12,19,20] 1 ((runOps Tryz.prog (callG Tryz.prog (coC []) fun k=>Sy.exec Tryz.prog (coC []) 60 k) (coC []).sym (coC []).inp 1 (opsOf (sqA coK)) [0,1] (coN n X m i d xs [])).map fun s=>(Exit.normal,s)))=some (.normal,(coN n X m i d xs [(19,.nl (.map (some m))),(20,.agg [.ints .u8 32 d])]).t,(coN n X m i d xs []).h):=by kernel_rfl
theorem co_a1' (n:Nat) (X:Nat→List Int) (m:Nat) (i:Int) (d xs:List Int):obX (cutR [3,5,6,10,11,12,19,20] 1 ((runOps Tryz.prog (callG Tryz.prog (coC []) fun k=>Sy.exec Tryz.prog (coC []) 60 k) (coC []).sym (coC []).inp 1 (opsOf (sqA coK)) [0,1] (coN n X m i d xs [])).map fun s=>(Exit.normal,s)))=(true):=by kernel_rfl
theorem co_a2 (n:Nat) (X:Nat→List Int) (m:Nat) (i:Int) (d xs y:List Int) (b:Bool):resX (cutR [3,5,6,7,8,10,11,12] 1 ((runOps Tryz.prog (callG Tryz.prog (coC []) fun k=>Sy.exec Tryz.prog (coC []) 60 k) (coC []).sym (coC []).inp 1 (opsOf (sqA coK)) [3,4,5,6,7] ⟨putT (coN n X m i d xs [(19,.nl (.map (some m))),(20,.agg [.ints .u8 32 d])]).t (some 21) (.tup [.str y,.bool b]),(coN n X m i d xs []).h,true⟩).map fun s=>(Exit.normal,s)))=some (.normal,(coN n X m i d xs [(7,.str y),(8,.bool b)]).t,(coN n X m i d xs []).h):=by kernel_rfl
theorem co_a2' (n:Nat) (X:Nat→List Int) (m:Nat) (i:Int) (d xs y:List Int) (b:Bool):obX (cutR [3,5,6,7,8,10,11,12] 1 ((runOps Tryz.prog (callG Tryz.prog (coC []) fun k=>Sy.exec Tryz.prog (coC []) 60 k) (coC []).sym (coC []).inp 1 (opsOf (sqA coK)) [3,4,5,6,7] ⟨putT (coN n X m i d xs [(19,.nl (.map (some m))),(20,.agg [.ints .u8 32 d])]).t (some 21) (.tup [.str y,.bool b]),(coN n X m i d xs []).h,true⟩).map fun s=>(Exit.normal,s)))=(true):=by kernel_rfl
theorem co_t0 (n:Nat) (X:Nat→List Int) (m:Nat) (i:Int) (d xs y:List Int):resX (cutR [3,5,6,10,11,12] 1 (exec Tryz.prog (coC []) 60 1 (sqB coK) (coN n X m i d xs [(7,.str y),(8,.bool false)])))=some (.normal,(coN n X m i d xs []).t,(coN n X m i d xs []).h):=by kernel_rfl
theorem co_t0' (n:Nat) (X:Nat→List Int) (m:Nat) (i:Int) (d xs y:List Int):obX (cutR [3,5,6,10,11,12] 1 (exec Tryz.prog (coC []) 60 1 (sqB coK) (coN n X m i d xs [(7,.str y),(8,.bool false)])))=(true):=by kernel_rfl
theorem co_t1 (n:Nat) (X:Nat→List Int) (m:Nat) (i:Int) (d xs y:List Int):resX (cutR [3,5,6,10,11,12] 1 (exec Tryz.prog (coC [(30,false)]) 60 1 (sqB coK) (coN n X m i d xs [(7,.str y),(8,.bool true)])))=some (.normal,(coN n X m i d xs []).t,(coN n X m i d xs []).h):=by kernel_rfl
theorem co_t1' (n:Nat) (X:Nat→List Int) (m:Nat) (i:Int) (d xs y:List Int):obX (cutR [3,5,6,10,11,12] 1 (exec Tryz.prog (coC [(30,false)]) 60 1 (sqB coK) (coN n X m i d xs [(7,.str y),(8,.bool true)])))=(andT (andT true (andT (andT true (true&&decide (xs.length=xs.length))) (u8R xs))) !!decide (y=xs)):=by kernel_rfl
theorem co_t2 (n:Nat) (X:Nat→List Int) (m:Nat) (i:Int) (d xs y:List Int):resX (cutR [2] 0 (exec Tryz.prog (coC [(30,true)]) 60 1 (sqB coK) (coN n X m i d xs [(7,.str y),(8,.bool true)])))=some (.ret,(coZ true).t,[]):=by kernel_rfl
theorem co_t2' (n:Nat) (X:Nat→List Int) (m:Nat) (i:Int) (d xs y:List Int):obX (cutR [2] 0 (exec Tryz.prog (coC [(30,true)]) 60 1 (sqB coK) (coN n X m i d xs [(7,.str y),(8,.bool true)])))=(andT (andT true (andT (andT true (true&&decide (xs.length=xs.length))) (u8R xs))) !decide (y=xs)):=by kernel_rfl
theorem co_w (n:Nat) (X:Nat→List Int) (m:Nat) (i:Int) (d xs:List Int):resX (cutR [3,10,11,12,31,32,34] 1 ((runOps Tryz.prog (callG Tryz.prog (coC []) fun k=>Sy.exec Tryz.prog (coC []) 60 k) (coC []).sym (coC []).inp 1 (opsOf (sqB (sqB (sqB coI)))) [0,1,2,3] (coN n X m i d xs [])).map fun s=>(Exit.normal,s)))=some (.normal,(coX n X m i [(31,.nl (.map (some m))),(32,.agg [.ints .u8 32 d]),(34,.str xs)] []).t,(coN n X m i d xs []).h):=by kernel_rfl
theorem co_w' (n:Nat) (X:Nat→List Int) (m:Nat) (i:Int) (d xs:List Int):obX (cutR [3,10,11,12,31,32,34] 1 ((runOps Tryz.prog (callG Tryz.prog (coC []) fun k=>Sy.exec Tryz.prog (coC []) 60 k) (coC []).sym (coC []).inp 1 (opsOf (sqB (sqB (sqB coI)))) [0,1,2,3] (coN n X m i d xs [])).map fun s=>(Exit.normal,s)))=(andT true (andT (andT true (true&&decide (xs.length=xs.length))) (u8R xs))):=by kernel_rfl
theorem co_n (n:Nat) (X:Nat→List Int) (m:Nat) (i:Int):resX (cutR [3,10,11,12] 0 (exec Tryz.prog (coC []) 60 0 (sqB (sqB (sqB coL))) (coS n X m i)))=some (.normal,(coS n X m (IntKind.i64.wrap (i+1))).t,[]):=by kernel_rfl
theorem co_n' (n:Nat) (X:Nat→List Int) (m:Nat) (i:Int):obX (cutR [3,10,11,12] 0 (exec Tryz.prog (coC []) 60 0 (sqB (sqB (sqB coL))) (coS n X m i)))=(true):=by kernel_rfl
end Go.Proofs.YthlnlcijnoadcaaGreatDoor.Mk
end
section
namespace Go.Proofs.YthlnlcijnoadcaaGreatDoor.Mk
open Go Go.Sy Tr Wi S2
open Q2 (shortQ shortDRE By)
theorem sumK:KeyS Tryz.prog 26 5:=⟨by kernel_rfl,by kernel_rfl,by kernel_rfl,by kernel_rfl,by kernel_rfl,by kernel_rfl⟩
theorem coL_eq:coL=[sqA coL,sqA (sqB coL)].foldr .seq (.seq (.block 1 coI) (sqB (sqB (sqB coL)))):=by kernel_rfl
theorem coI_eq:coI=[sqA coI,sqA (sqB coI)].foldr .seq (.seq coK (.region 9 (opsOf (sqB (sqB (sqB coI)))) false)):=by kernel_rfl
theorem coK_eq:coK= .seq (.region 6 (opsOf (sqA coK)) false) (sqB coK):=by kernel_rfl
theorem coR_eq:coR= .seq (.seq (sqA (sqA coR)) (.block 0 (.loop coL))) (sqB coR):=by kernel_rfl
theorem coB_eq:coB=[sqA coB].foldr .seq (.seq (.region 1 (opsOf (sqA (sqB coB))) false) coR):=by kernel_rfl
noncomputable def mpS (X:Nat→List Int):Nat→List (List Int×List Int)
 |0=>[]
 |i+1=>setS (mpS X i) (shortQ (X i)) (X i)
noncomputable def cok (X:Nat→List Int) (i:Nat):Bool:=match getS (mpS X i) (shortQ (X i)) with
 |none=>true
 |some y=>decide (y=X i)
noncomputable def colB (n:Nat) (X:Nat→List Int):Bool:=!(List.range n).all (cok X)
section
variable {n m i:Nat} {X:Nat→List Int}
theorem co_ask (d xs:List Int) (hd:d.length=32) (l:List (List Int×List Int)):TrX Tryz.prog none 0 (.region 6 (opsOf (sqA coK)) false) (coN n X m ((i:Nat):Int) d xs []) (MapS m l) .normal (coN n X m ((i:Nat):Int) d xs [(7,.str ((getS l d).getD [])),(8,.bool (getS l d).isSome)]) (MapS m l):=by
 have K:=MapS.keeps m
 have F:=MapS.free m
 refine TrX.region 6 ?_
 rw [show List.range (opsOf (sqA coK)).size=[0,1]++([2]++[3,4,5,6,7]) by kernel_rfl]
 refine OX.append (OX.runX (coC_ok []) (K l) (F l) 60 _ 1 (by decide) _ (co_a1 n X m i d xs) (co_a1' n X m i d xs) rfl (s':=coN n X m i d xs [(19,.nl (.map (some m))),(20,.agg [.ints .u8 32 d])])) ?_
 refine OX.append (OX.askS sumK (dst:=some 21) (t:=142) (et:=9) (xm:=.tmp 19) (xk:=.tmp 20) (s0:=⟨#[]⟩) (by kernel_rfl) (by kernel_rfl) (by kernel_rfl) (by kernel_rfl) rfl (by kernel_rfl) (d:=d) (by kernel_rfl) hd) ?_
 exact OX.runX (coC_ok []) (K l) (F l) 60 _ 1 (by decide) _ (co_a2 n X m i d xs _ _) (co_a2' n X m i d xs _ _) rfl
theorem co_good (hi:i<n) (hb:n≤100000) (hl:(X i).length<274877900000) (hu:u8R (X i)=true) (hg:cok X i=true):
  TrX Tryz.prog none 0 coL (coS n X m ((i:Nat):Int)) (MapS m (mpS X i)) .normal (coS n X m ((i+1:Nat):Int)) (MapS m (mpS X (i+1))):=by
 have K:=MapS.keeps m
 have F:=MapS.free m
 have hd:(shortQ (X i)).length=32:=shortQ_len _
 have hn:=co_n n X m i
 rw [wrapS (by omega)] at hn
 have h2:=co_l2 n X m i
 have h2':=co_l2' n X m i
 rw [Int.toNat_natCast] at h2 h2'
 rw [coL_eq]
 refine TrX.heads (coC_ok [(13,true)]) (K _) (F _) 60 _ 0 (Nat.le_refl _) _ (s1:=coS n X m ((i:Nat):Int)) (co_l1 n X m i) (co_l1' n X m i) (by rw [ltN hi];rfl) ?_
 refine TrX.seq (s1:=coS n X m ((i:Nat):Int)) (H1:=MapS m (mpS X (i+1))) (TrX.block_pass ?_ (by simp)) (TrX.cutX (coC_ok []) (K _) (F _) 60 _ 0 (Nat.le_refl _) _ hn (co_n' n X m i) rfl)
 rw [coI_eq]
 refine TrX.heads (coC_ok []) (K _) (F _) 60 _ 1 (by decide) _ (s1:=coN n X m ((i:Nat):Int) (shortQ (X i)) (X i) []) h2 h2' (by rw [inBN hi,decide_eq_true hi,decide_eq_true hl];rfl) ?_
 refine TrX.seq (s1:=coN n X m ((i:Nat):Int) (shortQ (X i)) (X i) []) (H1:=MapS m (mpS X i)) ?_ ?_
 ·rw [coK_eq]
  refine TrX.seq (co_ask (shortQ (X i)) (X i) hd (mpS X i)) ?_
  unfold cok at hg
  cases hq:getS (mpS X i) (shortQ (X i)) with
  |none=>exact TrX.cutX (coC_ok []) (K _) (F _) 60 _ 1 (by decide) _ (co_t0 n X m i _ _ _) (co_t0' n X m i _ _ _) rfl
  |some y=>
   rw [hq] at hg
   have hy:y=X i:=of_decide_eq_true hg
   exact TrX.cutX (coC_ok [(30,false)]) (K _) (F _) 60 _ 1 (by decide) _ (co_t1 n X m i _ _ _) (co_t1' n X m i _ _ _) (by
    show andT (andT true (andT (andT true (true&&decide ((X i).length=(X i).length))) (u8R (X i)))) (!!decide (y=X i))=true
    rw [hu,decide_eq_true hy,decide_eq_true rfl];rfl)
 ·have hW:OX Tryz.prog none 0 (opsOf (sqB (sqB (sqB coI)))) (List.range (opsOf (sqB (sqB (sqB coI)))).size) (coN n X m ((i:Nat):Int) (shortQ (X i)) (X i) []) (MapS m (mpS X i)) ⟨(coX n X m ((i:Nat):Int) [(31,.nl (.map (some m))),(32,.agg [.ints .u8 32 (shortQ (X i))]),(34,.str (X i))] []).t,[.b [.ints .u8 32 (shortQ (X i))]],true⟩ (MapS m (mpS X (i+1))):=by
   rw [show List.range (opsOf (sqB (sqB (sqB coI)))).size=[0,1,2,3]++[4] by kernel_rfl]
   refine OX.append (OX.runX (coC_ok []) (K _) (F _) 60 _ 1 (by decide) _ (co_w n X m i _ _) (co_w' n X m i _ _) (by rw [hu,decide_eq_true rfl];rfl) (s':=⟨(coX n X m ((i:Nat):Int) [(31,.nl (.map (some m))),(32,.agg [.ints .u8 32 (shortQ (X i))]),(34,.str (X i))] []).t,[.b [.ints .u8 32 (shortQ (X i))]],true⟩)) ?_
   exact OX.writeS sumK (t:=142) (et:=9) (xm:=.tmp 31) (xk:=.tmp 32) (xv:=.tmp 34) (by kernel_rfl) (by kernel_rfl) (by kernel_rfl) (by kernel_rfl) (by kernel_rfl) (by kernel_rfl) hd
  exact TrX.ent (F _) (TrX.region 9 hW) (Ent.cut (live:=[3,10,11,12]) (n:=0) (Nat.zero_le _) (by kernel_rfl))
theorem co_bad (hi:i<n) (hl:(X i).length<274877900000) (hu:u8R (X i)=true) (hg:cok X i=false):
  TrX Tryz.prog none 0 coL (coS n X m ((i:Nat):Int)) (MapS m (mpS X i)) .ret (coZ true) (fun _ _ _=>True):=by
 have K:=MapS.keeps m
 have F:=MapS.free m
 have hd:(shortQ (X i)).length=32:=shortQ_len _
 have h2:=co_l2 n X m i
 have h2':=co_l2' n X m i
 rw [Int.toNat_natCast] at h2 h2'
 rw [coL_eq]
 refine TrX.heads (coC_ok [(13,true)]) (K _) (F _) 60 _ 0 (Nat.le_refl _) _ (s1:=coS n X m ((i:Nat):Int)) (co_l1 n X m i) (co_l1' n X m i) (by rw [ltN hi];rfl) ?_
 refine TrX.seq_leave (TrX.block_pass ?_ (by simp)) (by simp)
 rw [coI_eq]
 refine TrX.heads (coC_ok []) (K _) (F _) 60 _ 1 (by decide) _ (s1:=coN n X m ((i:Nat):Int) (shortQ (X i)) (X i) []) h2 h2' (by rw [inBN hi,decide_eq_true hi,decide_eq_true hl];rfl) ?_
 refine TrX.seq_leave ?_ (by simp)
 rw [coK_eq]
 refine TrX.seq (co_ask (shortQ (X i)) (X i) hd (mpS X i)) ?_
 unfold cok at hg
 cases hq:getS (mpS X i) (shortQ (X i)) with
 |none=>rw [hq] at hg;cases hg
 |some y=>
  rw [hq] at hg
  have hy:¬y=X i:=of_decide_eq_false hg
  exact TrX.weak (TrX.cutX (coC_ok [(30,true)]) (K _) (F _) 60 _ 0 (by decide) _ (co_t2 n X m i _ _ _) (co_t2' n X m i _ _ _) (by
   show andT (andT true (andT (andT true (true&&decide ((X i).length=(X i).length))) (u8R (X i)))) (!decide (y=X i))=true
   rw [hu,decide_eq_false hy,decide_eq_true rfl];rfl)) fun _ _ _ _=>trivial
theorem co_rest (hb:n≤100000) (hl:∀i,i<n→(X i).length<274877900000∧u8R (X i)=true) (m:Nat):
  TrX Tryz.prog none 0 coR ⟨slotsOf 36 [(0,.rol false 1 n (txO X)),(3,.nl (.map (some m)))],[],true⟩ (MapS m []) .ret (coZ (colB n X)) (fun _ _ _=>True):=by
 have K:=MapS.keeps m
 have F:=MapS.free m
 have hinit:TrX Tryz.prog none 0 (sqA (sqA coR)) ⟨slotsOf 36 [(0,.rol false 1 n (txO X)),(3,.nl (.map (some m)))],[],true⟩ (MapS m []) .normal (coS n X m ((0:Nat):Int)) (MapS m (mpS X 0)):=
  TrX.cutX (coC_ok []) (K []) (F []) 60 _ 0 (Nat.le_refl _) _ (co_i n X m) (co_i' n X m) rfl
 rw [coR_eq]
 unfold colB
 cases hq:firstN (cok X) n with
 |some i=>
  obtain ⟨h1,h2,h3⟩:=find_range hq
  have hall:(List.range n).all (cok X)=false:=by
   rw [←Bool.not_eq_true,List.all_eq_true]
   intro h
   rw [h i (List.mem_range.2 h1)] at h2
   cases h2
  rw [hall]
  exact TrX.seq_leave (TrX.seq hinit (TrX.block_pass (TrRX.loop (TrRX.for (by simp) (fun j:Nat=>coS n X m ((j:Nat):Int)) (fun j=>MapS m (mpS X j)) i (fun j hj=>co_good (by omega) hb (hl j (by omega)).1 (hl j (by omega)).2 (h3 j hj)) (co_bad h1 (hl i h1).1 (hl i h1).2 h2))) (by simp))) (by simp)
 |none=>
  have h3:=firstN_none hq
  have hall:(List.range n).all (cok X)=true:=List.all_eq_true.2 fun i hi=>h3 i (List.mem_range.1 hi)
  rw [hall]
  refine TrX.seq (TrX.seq hinit (TrX.block (TrRX.loop (TrRX.for (by simp) (fun j:Nat=>coS n X m ((j:Nat):Int)) (fun j=>MapS m (mpS X j)) n (fun j hj=>co_good hj hb (hl j hj).1 (hl j hj).2 (h3 j hj)) (TrX.cutX (coC_ok [(13,false)]) (K _) (F _) 60 _ 0 (Nat.le_refl _) (s':=⟨slotsOf 36 [],[],true⟩) _ (co_e n X m n) (co_e' n X m n) (by rw [nltN (Nat.le_refl _)];rfl)))))) ?_
  exact TrX.weak (TrX.cutX (coC_ok []) (K _) (F _) 60 _ 0 (Nat.le_refl _) _ (co_z ()) (co_z' ()) rfl) fun _ _ _ _=>trivial
theorem collide_fn (hb:n≤100000) (hl:∀i,i<n→(X i).length<274877900000∧u8R (X i)=true):FnTr Tryz.prog 38 [.rol false 1 n (txO X)] [] (.bool (colB n X)) []:=by
 have hh:Keeps (fun _ _ _=>True):=fun _ _ _ _ _ _ _ _ _ _ _=>trivial
 have key:TrX Tryz.prog none 0 coB ⟨slots0 Tryz.f38.ntmps [.rol false 1 n (txO X)],[],true⟩ (fun _ _ _=>True) .ret (coZ (colB n X)) (fun _ _ _=>True):=by
  rw [coB_eq]
  refine TrX.heads (coC_ok []) hh (fun _ _ _ _ _=>trivial) 60 _ 0 (Nat.le_refl _) _ (s1:=⟨slotsOf 36 [(0,.rol false 1 n (txO X))],[],true⟩) (co_h n X) (co_h' n X) rfl ?_
  refine OXE.region 1 (F:=fun m=>⟨slotsOf 36 [(0,.rol false 1 n (txO X)),(3,.nl (.map (some m)))],[],true⟩) (G:=fun m=>MapS m []) ?_ fun m=>co_rest hb hl m
  rw [show List.range (opsOf (sqA (sqB coB))).size=[0]++[1] by kernel_rfl]
  exact OXE.append (OXE.makeS (dst:=some 9) (t:=142) (by kernel_rfl) (by kernel_rfl)) fun m=>OX.runX (coC_ok []) (MapS.keeps m []) (MapS.free m []) 60 _ 0 (Nat.le_refl _) _ (co_mk n X m) (co_mk' n X m) rfl
 have h2:∀b:Bool,resS Tryz.prog (coZ b).t (coZ b).h Tryz.f38.results.toList=some ([.bool b],true):=fun _=>by kernel_rfl
 exact FnTr.of_Tr (args:=[.rol false 1 n (txO X)]) (h:=[]) (s:=coZ _) Tryz.func38 (c:=coB) (by kernel_rfl) (.inl rfl) (key.to fun _ _ _=>trivial) (h2 _)
end
end Go.Proofs.YthlnlcijnoadcaaGreatDoor.Mk
end
section
namespace Go.Proofs.YthlnlcijnoadcaaGreatDoor.Mk
open Go Go.Sy Tr Wi S2
open Q2 (shortQ shortDRE By)
theorem tx_merge (X:Nat→List Int) (n:Nat):∀i,i<n+1→PE (mergeP (Nat.ble (i+1) n) (txG X i) [.ro true .u8 (X n)]) (txG X i):=fun i hi=>by
 by_cases h:i<n
 ·rw [Nat.ble_eq_true_of_le (show i+1≤n by omega)];exact PE.refl _
 ·obtain rfl:i=n:=by omega
  rw [show Nat.ble (i+1) i=false from by
   cases hb:Nat.ble (i+1) i with
   |false=>rfl
   |true=>have:=Nat.le_of_ble_eq_true hb;omega]
  exact PE.refl _
theorem texts_fn {N:Nat} {t:Nat→Nod} (hT:TOK N t) (hr:∀i:Nat,i<N→rtOK N t [] (i:Int) 8=true):FnTr Tryz.prog 39 [.rol false 99 N (tng t)] [] (.rsl 0 1 N N false) [.b [.rows 1 N (txG fun i=>rtxV t [] (i:Int))]]:=by
 have hle:=hT.le
 have hok:okT N (fun i=>coolL (tng t i))=true:=okT_tng hT
 refine FnTr.toEnd (h:=[]) Tryz.func39 rfl 3 0 (fun j=>ttS N t (fun i=>rtxV t [] (i:Int)) j ((j:Nat):Int)) N
  (fun y s' g=>TrL.itemsX (ttC_ok []) 60 3 _ 0 (Nat.zero_le _) (s1:=⟨slotsOf 18 [(0,.rol false 99 N (tng t)),(3,.nl (.slice none 0 0)),(4,.int .i64 0)],[],true⟩) _ (tt_h N t) (tt_h' N t) rfl (by decide) rfl (TrL.pre g (Ent.nilRows 3 rfl 1 (txG fun i=>rtxV t [] (i:Int)) false) (by intro q;cases q))) (by decide) (by kernel_rfl)
  (fun j hj=>?_) (sE:=⟨slotsOf 18 [(3,.rsl 0 1 N N false)],[.b [.rows 1 N (txG fun i=>rtxV t [] (i:Int))]],true⟩) (s':=⟨slotsOf 18 [(2,.rsl 0 1 N N false),(3,.rsl 0 1 N N false),(17,.rsl 0 1 N N false)],[.b [.rows 1 N (txG fun i=>rtxV t [] (i:Int))]],true⟩) (x:=.ret) (v:=[.rsl 0 1 N N false]) ?_ ?_ (.inl rfl) (by kernel_rfl)
 ·have e:=tt_1 N t (fun i=>rtxV t [] (i:Int)) j j
  rw [wrapS (by omega)] at e
  refine Tr.post (s1:=⟨(ttS N t (fun i=>rtxV t [] (i:Int)) (j+1) ((j+1:Nat):Int)).t,[.b [.rows 1 (j+1) fun i=>mergeP (Nat.ble (i+1) j) (txG (fun i=>rtxV t [] (i:Int)) i) [.ro true .u8 (rtxV t [] (j:Int))]]],true⟩) (Tr.cutX (ttC_ok [(8,true)]) 60 _ 1 (Nat.zero_le _) _ e (tt_1' N t (fun i=>rtxV t [] (i:Int)) j j) ?_) (Ent.blks ⟨PE.rows (tx_merge (fun i=>rtxV t [] (i:Int)) j),trivial⟩)
  rw [ltN hj,hok,decide_eq_true hle,show rtOK N (treeOf fun i=>coolL (tng t i)) [] (j:Int) 8=true from hr j hj,decide_eq_true (Nat.le_refl j),decide_eq_true (show j+1≤2^38 by omega)]
  rfl
 ·exact Tr.cutX (ttC_ok [(8,false)]) 60 _ 1 (Nat.zero_le _) _ (tt_e N t _ N N) (tt_e' N t _ N N) (by rw [nltN (Nat.le_refl _)];rfl)
 ·exact TrL.rest (ttC_ok []) 60 (by kernel_rfl) rfl
theorem VE.txs {n:Nat} {g:Nat→List SV} (h:∀i,i<n→isTx (g i)=true):VE (.rol false 1 n g) (.rol false 1 n (txO (txOf g))):=VE.rolc fun i hi=>by
 have:=h i hi
 unfold isTx at this
 unfold txO txOf
 split at this
 ·rename_i xs e;rw [e]
 ·cases this
noncomputable def textsE:Entry Tryz.prog:=.val 39 _ Tryz.func39 (by decide) rfl true 1 (fun vs=>match vs with
 | [.rol false 99 N g]=>some (.rsl 0 1 N N false,[.b [.rows 1 N (txG fun i=>rtxV (treeOf g) [] (i:Int))]],okT N g&&decide (N≤71)&&(List.range N).all fun i=>rtOK N (treeOf g) [] (i:Int) 8)
 |_=>none) fun vs v new e=>by
 split at e
 ·simp only [Option.some.injEq,Prod.mk.injEq,Bool.and_eq_true,decide_eq_true_eq] at e
  obtain ⟨rfl,rfl,⟨h1,h2⟩,h3⟩:=e
  exact FnTr.conv (texts_fn (TOK.of h1 h2) fun i hi=>List.all_eq_true.1 h3 i (List.mem_range.2 hi)) ⟨VE.tree h1,trivial⟩ trivial (VE.refl _) ⟨PE.refl _,trivial⟩
 ·cases e
noncomputable def collideE:Entry Tryz.prog:=.val 38 _ Tryz.func38 (by decide) rfl true 0 (fun vs=>match vs with
 | [.rol false 1 n g]=>some (.bool (colB n (txOf g)),[],decide (n≤100000)&&(List.range n).all fun i=>isTx (g i)&&decide ((txOf g i).length<274877900000)&&u8R (txOf g i))
 |_=>none) fun vs v new e=>by
 split at e
 ·simp only [Option.some.injEq,Prod.mk.injEq,Bool.and_eq_true,decide_eq_true_eq,List.all_eq_true] at e
  obtain ⟨rfl,rfl,h1,h2⟩:=e
  have h3:=fun i hi=>h2 i (List.mem_range.2 hi)
  exact FnTr.conv (collide_fn h1 fun i hi=>⟨(h3 i hi).1.2,(h3 i hi).2⟩) ⟨VE.txs fun i hi=>(h3 i hi).1.1,trivial⟩ trivial (VE.refl _) trivial
 ·cases e
noncomputable def goodSE:Entry Tryz.prog:=.val 19 _ Tryz.func19 (by decide) rfl true 0 (fun vs=>match vs with
 | [.rol false 99 N g]=>some (.bool (goodQ N (treeOf g)),[],okT N g&&decide (N≤71))
 |_=>none) fun vs v new e=>by
 split at e
 ·simp only [Option.some.injEq,Prod.mk.injEq,Bool.and_eq_true,decide_eq_true_eq] at e
  obtain ⟨rfl,rfl,h1,h2⟩:=e
  exact FnTr.conv (good_fn (TOK.of h1 h2)) ⟨VE.tree h1,trivial⟩ trivial (VE.refl _) trivial
 ·cases e
noncomputable def muC (l:List (Nat×Bool)):Ctr:=mk (P:=Tryz.prog) [alive15E,largeME,goodSE,mTreeE,rSameE,textsE,collideE] [] (uT l)
theorem muC_ok (l:List (Nat×Bool)):CtrSound Tryz.prog (muC l):=mk_sound _ InlOK.nil _ _
theorem mu_a (N M:Nat) (t u:Nat→Nod):(callS Tryz.prog (muC [(13,true)]) 60 Tryz.f8 [.rol false 99 N (tng t),.rol false 99 M (tng u)] []).map (fun x=>(x.1,x.2.2))=some (.bool true,andT (andT true (andT true (okT0 N fun i=>coolL (tng t i)))) (largeM N (treeOf fun i=>coolL (tng t i)))):=by kernel_rfl
theorem mu_b (N M:Nat) (t u:Nat→Nod):(callS Tryz.prog (muC [(13,false),(17,true)]) 60 Tryz.f8 [.rol false 99 N (tng t),.rol false 99 M (tng u)] []).map (fun x=>(x.1,x.2.2))=some (.bool true,andT (andT (andT (andT true (andT true (okT0 N fun i=>coolL (tng t i)))) !largeM N (treeOf fun i=>coolL (tng t i))) (andT true (okT0 M fun i=>coolL (tng u i)))) (largeM M (treeOf fun i=>coolL (tng u i)))):=by kernel_rfl
theorem mu_c (N M:Nat) (t u:Nat→Nod):(callS Tryz.prog (muC [(13,false),(17,false),(22,true)]) 60 Tryz.f8 [.rol false 99 N (tng t),.rol false 99 M (tng u)] []).map (fun x=>(x.1,x.2.2))=some (.bool true,andT (andT (andT (andT (andT (andT true (andT true (okT0 N fun i=>coolL (tng t i)))) !largeM N (treeOf fun i=>coolL (tng t i))) (andT true (okT0 M fun i=>coolL (tng u i)))) !largeM M (treeOf fun i=>coolL (tng u i))) (andT true ((okT N fun i=>coolL (tng t i))&&decide (N≤71)))) !goodQ N (treeOf fun i=>coolL (tng t i))):=by kernel_rfl
theorem mu_d (N M:Nat) (t u:Nat→Nod):(callS Tryz.prog (muC [(13,false),(17,false),(22,false),(26,true)]) 60 Tryz.f8 [.rol false 99 N (tng t),.rol false 99 M (tng u)] []).map (fun x=>(x.1,x.2.2))=some (.bool true,andT (andT (andT (andT (andT (andT (andT (andT true (andT true (okT0 N fun i=>coolL (tng t i)))) !largeM N (treeOf fun i=>coolL (tng t i))) (andT true (okT0 M fun i=>coolL (tng u i)))) !largeM M (treeOf fun i=>coolL (tng u i))) (andT true ((okT N fun i=>coolL (tng t i))&&decide (N≤71)))) !!goodQ N (treeOf fun i=>coolL (tng t i))) (andT true ((okT M fun i=>coolL (tng u i))&&decide (M≤71)))) !goodQ M (treeOf fun i=>coolL (tng u i))):=by kernel_rfl
theorem mu_e (N M:Nat) (t u:Nat→Nod):(callS Tryz.prog (muC [(13,false),(17,false),(22,false),(26,false),(39,false),(42,false),(45,true)]) 60 Tryz.f8 [.rol false 99 N (tng t),.rol false 99 M (tng u)] []).map (fun x=>(x.1,x.2.2))=some (.bool (decide (dgL N t [] ((N/2:Nat):Int)=dgL M u [] ((M/2:Nat):Int))),andT (andT (andT (andT (andT (andT (andT (andT (andT (andT (andT (andT (andT (andT (andT true (andT true (okT0 N fun i=>coolL (tng t i)))) !largeM N (treeOf fun i=>coolL (tng t i))) (andT true (okT0 M fun i=>coolL (tng u i)))) !largeM M (treeOf fun i=>coolL (tng u i))) (andT true ((okT N fun i=>coolL (tng t i))&&decide (N≤71)))) !!goodQ N (treeOf fun i=>coolL (tng t i))) (andT true ((okT M fun i=>coolL (tng u i))&&decide (M≤71)))) !!goodQ M (treeOf fun i=>coolL (tng u i))) (andT true ((okT N fun i=>coolL (tng t i))&&decide (N≤71)))) (andT true ((okT M fun i=>coolL (tng u i))&&decide (M≤71)))) !!dgQ N (treeOf fun i=>coolL (tng t i)) (((N/2):Nat):Int)) !!dgQ M (treeOf fun i=>coolL (tng u i)) (((M/2):Nat):Int)) (andT true (((okT N fun i=>coolL (tng t i))&&okT M fun i=>coolL (tng u i))&&decide (N≤71)&&decide (M≤71)))) (Tr.treeB N M (treeOf fun i=>coolL (tng t i)) (treeOf fun i=>coolL (tng u i)))) (andT (decide ((dgL N (treeOf fun i=>coolL (tng t i)) [] (((N/2):Nat):Int)).length=32)) (decide ((dgL M (treeOf fun i=>coolL (tng u i)) [] (((M/2):Nat):Int)).length=32)))):=by kernel_rfl
theorem mu_f (N M:Nat) (t u:Nat→Nod):(callS Tryz.prog (muC [(13,false),(17,false),(22,false),(26,false),(39,false),(42,false),(45,false),(52,true)]) 60 Tryz.f8 [.rol false 99 N (tng t),.rol false 99 M (tng u)] []).map (fun x=>(x.1,x.2.2))=some (.bool true,andT (andT (andT (andT (andT (andT (andT (andT (andT (andT (andT (andT (andT (andT (andT (andT true (andT true (okT0 N fun i=>coolL (tng t i)))) !largeM N (treeOf fun i=>coolL (tng t i))) (andT true (okT0 M fun i=>coolL (tng u i)))) !largeM M (treeOf fun i=>coolL (tng u i))) (andT true ((okT N fun i=>coolL (tng t i))&&decide (N≤71)))) !!goodQ N (treeOf fun i=>coolL (tng t i))) (andT true ((okT M fun i=>coolL (tng u i))&&decide (M≤71)))) !!goodQ M (treeOf fun i=>coolL (tng u i))) (andT true ((okT N fun i=>coolL (tng t i))&&decide (N≤71)))) (andT true ((okT M fun i=>coolL (tng u i))&&decide (M≤71)))) !!dgQ N (treeOf fun i=>coolL (tng t i)) (((N/2):Nat):Int)) !!dgQ M (treeOf fun i=>coolL (tng u i)) (((M/2):Nat):Int)) (andT true (((okT N fun i=>coolL (tng t i))&&okT M fun i=>coolL (tng u i))&&decide (N≤71)&&decide (M≤71)))) !Tr.treeB N M (treeOf fun i=>coolL (tng t i)) (treeOf fun i=>coolL (tng u i))) (andT (decide ((dgL N (treeOf fun i=>coolL (tng t i)) [] (((N/2):Nat):Int)).length=32)) (decide ((dgL M (treeOf fun i=>coolL (tng u i)) [] (((M/2):Nat):Int)).length=32)))) !decide (dgL N (treeOf fun i=>coolL (tng t i)) [] (((N/2):Nat):Int)=dgL M (treeOf fun i=>coolL (tng u i)) [] (((M/2):Nat):Int))):=by kernel_rfl
theorem mu_g (N M:Nat) (t u:Nat→Nod):(callS Tryz.prog (muC [(13,false),(17,false),(22,false),(26,false),(39,false),(42,false),(45,false),(52,false)]) 60 Tryz.f8 [.rol false 99 N (tng t),.rol false 99 M (tng u)] []).map (fun x=>(x.1,x.2.2))=some (.bool (colB (N+M) (txOf fun i=>coolL (mergeP (Nat.ble (i+1) N) (txG (fun i=>rtxV t [] (i:Int)) i) (txG (fun i=>rtxV u [] (i:Int)) (i-N))))),andT (andT (andT (andT (andT (andT (andT (andT (andT (andT (andT (andT (andT (andT (andT (andT (andT (andT (andT (andT true (andT true (okT0 N fun i=>coolL (tng t i)))) !largeM N (treeOf fun i=>coolL (tng t i))) (andT true (okT0 M fun i=>coolL (tng u i)))) !largeM M (treeOf fun i=>coolL (tng u i))) (andT true ((okT N fun i=>coolL (tng t i))&&decide (N≤71)))) !!goodQ N (treeOf fun i=>coolL (tng t i))) (andT true ((okT M fun i=>coolL (tng u i))&&decide (M≤71)))) !!goodQ M (treeOf fun i=>coolL (tng u i))) (andT true ((okT N fun i=>coolL (tng t i))&&decide (N≤71)))) (andT true ((okT M fun i=>coolL (tng u i))&&decide (M≤71)))) !!dgQ N (treeOf fun i=>coolL (tng t i)) (((N/2):Nat):Int)) !!dgQ M (treeOf fun i=>coolL (tng u i)) (((M/2):Nat):Int)) (andT true (((okT N fun i=>coolL (tng t i))&&okT M fun i=>coolL (tng u i))&&decide (N≤71)&&decide (M≤71)))) !Tr.treeB N M (treeOf fun i=>coolL (tng t i)) (treeOf fun i=>coolL (tng u i))) (andT (decide ((dgL N (treeOf fun i=>coolL (tng t i)) [] (((N/2):Nat):Int)).length=32)) (decide ((dgL M (treeOf fun i=>coolL (tng u i)) [] (((M/2):Nat):Int)).length=32)))) !!decide (dgL N (treeOf fun i=>coolL (tng t i)) [] (((N/2):Nat):Int)=dgL M (treeOf fun i=>coolL (tng u i)) [] (((M/2):Nat):Int))) (andT true ((okT N fun i=>coolL (tng t i))&&decide (N≤71)&&(List.range N).all fun i=>rtOK N (treeOf fun i=>coolL (tng t i)) [] (((i:Nat):Int)) 8))) (andT true ((okT M fun i=>coolL (tng u i))&&decide (M≤71)&&(List.range M).all fun i=>rtOK M (treeOf fun i=>coolL (tng u i)) [] (((i:Nat):Int)) 8))) (andT (andT (decide (M≤M)) (decide (N≤N))) (andT (decide ((1,M,txG fun i=>rtxV (treeOf fun i=>coolL (tng u i)) [] ((i:Nat):Int)).snd.fst=M)) (andT ((List.range M).all fun i=>okParts ((1,M,txG fun i=>rtxV (treeOf fun i=>coolL (tng u i)) [] ((i:Nat):Int)).snd.snd i)) (decide (N+M≤2^38)))))) (andT (decide (N+M≤N+M)) (decide (N+M≤100000)&&(List.range (N+M)).all fun i=>isTx ((fun i=>coolL ((fun i=>mergeP ((i+1).ble N) (txG (fun i=>rtxV (treeOf fun i=>coolL (tng t i)) [] ((i:Nat):Int)) i) ((1,M,txG fun i=>rtxV (treeOf fun i=>coolL (tng u i)) [] ((i:Nat):Int)).snd.snd (i-N))) i)) i)&&decide ((txOf (fun i=>coolL ((fun i=>mergeP ((i+1).ble N) (txG (fun i=>rtxV (treeOf fun i=>coolL (tng t i)) [] ((i:Nat):Int)) i) ((1,M,txG fun i=>rtxV (treeOf fun i=>coolL (tng u i)) [] ((i:Nat):Int)).snd.snd (i-N))) i)) i).length<274877900000)&&u8R (txOf (fun i=>coolL ((fun i=>mergeP ((i+1).ble N) (txG (fun i=>rtxV (treeOf fun i=>coolL (tng t i)) [] ((i:Nat):Int)) i) ((1,M,txG fun i=>rtxV (treeOf fun i=>coolL (tng u i)) [] ((i:Nat):Int)).snd.snd (i-N))) i)) i)))):=by kernel_rfl
end Go.Proofs.YthlnlcijnoadcaaGreatDoor.Mk
end
section
namespace Go.Proofs.YthlnlcijnoadcaaGreatDoor.Mk
open Go Go.Sy Tr Wi S2
open Q2 (shortQ shortDRE By)
theorem mp_all {X:Nat→List Int}:∀n,(∀i,i<n→cok X i=true)→∀j,j<n→getS (mpS X n) (shortQ (X j))=some (X j):=by
 intro n
 induction n with
 |zero=>intro _ j hj;omega
 |succ n ih=>
  intro h j hj
  have hn:=h n (by omega)
  have g:=ih (fun i hi=>h i (by omega))
  show getS (setS (mpS X n) (shortQ (X n)) (X n)) (shortQ (X j))=some (X j)
  rw [getS_set]
  by_cases e:shortQ (X j)=shortQ (X n)
  ·rw [decide_eq_true e]
   by_cases hjn:j=n
   ·rw [hjn];rfl
   ·have:=g j (by omega)
    unfold cok at hn
    rw [←e,this] at hn
    have:X j=X n:=of_decide_eq_true hn
    rw [this];rfl
  ·rw [decide_eq_false e]
   exact g j (by have:j≠n:=fun q=>e (by rw [q]);omega)
theorem col_uniq {X:Nat→List Int} {n:Nat} (h:colB n X=false) {i j:Nat} (hi:i<n) (hj:j<n) (e:shortQ (X i)=shortQ (X j)):X i=X j:=by
 unfold colB at h
 rw [Bool.not_eq_false',List.all_eq_true] at h
 have g:=mp_all n fun i hi=>h i (List.mem_range.2 hi)
 have a:=g i hi
 rw [e,g j hj] at a
 exact (Option.some.inj a).symm
theorem nsB_eq {a b:Nod} (h:Tr.nsB a b=true):a=b:=by
 unfold Tr.nsB sameB at h
 simp only [Bool.and_eq_true,decide_eq_true_eq,beq_iff_eq] at h
 obtain ⟨⟨⟨⟨⟨h1,h2⟩,h3⟩,h4⟩,h5⟩,h6⟩:=h
 cases a;cases b
 simp only at h1 h2 h3 h4 h5 h6
 subst h1 h2 h3 h4 h5 h6
 rfl
theorem nsB_self (a:Nod):Tr.nsB a a=true:=by unfold Tr.nsB sameB;simp
section
variable {N M n:Nat} {t u:Nat→Nod}
theorem treeB_iff:Tr.treeB N M t u=true↔N=M∧∀i,i<N→t i=u i:=by
 have hv:scanV (fun i=>Tr.nsB (t i) (u i)) N (fun _=>false) true=(List.range N).all fun i=>Tr.nsB (t i) (u i):=by
  unfold scanV;rw [←firstN_all];cases firstN _ _<;>rfl
 unfold Tr.treeB
 rw [hv,Bool.and_eq_true,List.all_eq_true]
 constructor
 ·rintro ⟨h1,h2⟩
  refine ⟨?_,fun i hi=>nsB_eq (h2 i (List.mem_range.2 hi))⟩
  simp at h1
  omega
 ·rintro ⟨rfl,h⟩
  refine ⟨by simp,fun i hi=>?_⟩
  rw [h i (List.mem_range.1 hi)]
  exact nsB_self _
theorem form_ok (hT:TOK N t) (hc:checkB N t=true) (ok:∀i,i<N→(t i).OK):∃n∈sizes,N=2*n-1∧(∀i,i<N→nodB (t i) (t i).un=true)∧(∀i:Nat,i<N→By (rtxV t [] (i:Int))∧(rtxV t [] (i:Int)).length≤300)∧(∀i:Nat,i<N→rtOK N t [] (i:Int) 8=true)∧digV t [] ((N/2:Nat):Int)=shortQ (rtxV t [] ((N/2:Nat):Int)):=by
 obtain ⟨n,hn,_,hN,_⟩:=check_parts hT hc
 have hs:=sizes_le hn
 have q:=check_dig (wo:=[]) hT hc (by simp) (x:=0) (by omega) (by omega)
 unfold digOK at q
 simp only [Bool.and_eq_true] at q
 have hB:=q.1.1.1.1.1
 refine ⟨n,hn,hN,fun i hi=>?_,fun i hi=>?_,fun i hi=>check_rt hT hc (by simp) (by omega) (by omega),?_⟩
 ·have:=List.all_eq_true.1 hB i (List.mem_range.2 hi)
  rw [Bool.and_eq_true] at this
  exact this.1
 ·obtain ⟨a,b,_⟩:=dig_txt hn hN hB ok (lvN 7 i) i hi rfl
  unfold rtxV
  rw [Int.toNat_natCast]
  exact ⟨a,b⟩
 ·exact (dig_eq hT hc (by simp) ok (by omega) (by omega)).symm
noncomputable def txB (N:Nat) (t u:Nat→Nod):Nat→List Int:=txOf fun i=>coolL (mergeP (Nat.ble (i+1) N) (txG (fun i=>rtxV t [] (i:Int)) i) (txG (fun i=>rtxV u [] (i:Int)) (i-N)))
theorem txB_lo {i:Nat} (h:i<N):txB N t u i=rtxV t [] (i:Int):=by
 unfold txB txOf
 dsimp only
 rw [Nat.ble_eq_true_of_le (show i+1≤N by omega)]
 rfl
theorem txB_hi (i:Nat):txB N t u (N+i)=rtxV u [] (i:Int):=by
 unfold txB txOf
 dsimp only
 rw [show Nat.ble (N+i+1) N=false from by
  cases hb:Nat.ble (N+i+1) N with
  |false=>rfl
  |true=>have:=Nat.le_of_ble_eq_true hb;omega,Nat.add_sub_cancel_left]
 rfl
theorem txB_is (i:Nat):isTx (coolL (mergeP (Nat.ble (i+1) N) (txG (fun i=>rtxV t [] (i:Int)) i) (txG (fun i=>rtxV u [] (i:Int)) (i-N))))=true:=by
 cases Nat.ble (i+1) N<;>rfl
theorem unlike_plain (hT:TOK N t) (hU:TOK M u) (hc:checkB N t=true) (hd:checkB M u=true) (okt:∀i,i<N→(t i).OK) (oku:∀i,i<M→(u i).OK) (hs:Tr.treeB N M t u=false) (he:digV t [] ((N/2:Nat):Int)=digV u [] ((M/2:Nat):Int)):colB (N+M) (txB N t u)=true:=by
 cases hcol:colB (N+M) (txB N t u) with
 |true=>rfl
 |false=>
  obtain ⟨n,hn,hN,t1,_,_,t4⟩:=form_ok hT hc okt
  obtain ⟨m,hm,hM,u1,_,_,u4⟩:=form_ok hU hd oku
  rw [t4,u4] at he
  have:=treeB_iff.2 (same_of hn hN hm hM t1 u1 (fun x y hx hy e=>by
   have q:=col_uniq hcol (i:=x) (j:=N+y) (by omega) (by omega) (by rw [txB_lo hx,txB_hi];exact e)
   rwa [txB_lo hx,txB_hi] at q) he)
  rw [hs] at this
  cases this
theorem alike_plain (hT:TOK N t) (hc:checkB N t=true) (hd:checkB M u=true) (hs:Tr.treeB N M t u=true):dgL N t [] ((N/2:Nat):Int)=dgL M u [] ((M/2:Nat):Int):=by
 obtain ⟨rfl,h⟩:=treeB_iff.1 hs
 obtain ⟨n,hn,_,hN,_⟩:=check_parts hT hc
 have hz:=sizes_le hn
 have q1:=dgQ_mid hT hc
 have q2:dgQ N u ((N/2:Nat):Int)=true:=by unfold dgQ;rw [hd,decide_eq_true (show (0:Int)≤((N/2:Nat):Int) by omega),decide_eq_true (show ((N/2:Nat):Int)<N by omega)];rfl
 unfold dgL
 rw [q1,q2]
 show digV t [] _=digV u [] _
 unfold digV
 rw [Int.toNat_natCast]
 refine digL_out u t [] _ _ fun z _ hz2=>h z ?_
 have:=(root_at hn hn).1
 rw [show N/2=n-1 by omega] at hz2
 rw [this] at hz2
 omega
theorem unlike_all (hT0:okT0 N (tng t)=true) (okt:∀i,i<N→(t i).OK) (hU0:okT0 M (tng u)=true) (oku:∀i,i<M→(u i).OK):FnTr Tryz.prog 8 [.rol false 99 N (tng t),.rol false 99 M (tng u)] [] (.bool true) []:=by
 have z1:okT0 N (fun i=>coolL (tng t i))=true:=hT0
 have z2:okT0 M (fun i=>coolL (tng u i))=true:=hU0
 have ht:(treeOf fun i=>coolL (tng t i))=t:=rfl
 have hu:(treeOf fun i=>coolL (tng u i))=u:=rfl
 cases g1:largeM N t with
 |true=>exact call0 (muC_ok _) 60 Tryz.func8 (mu_a N M t u) (by rw [ht,z1,g1];rfl) rfl
 |false=>
 cases g2:largeM M u with
 |true=>exact call0 (muC_ok _) 60 Tryz.func8 (mu_b N M t u) (by rw [ht,hu,z1,z2,g1,g2];rfl) rfl
 |false=>
 have h1:okT N (fun i=>coolL (tng t i))=true:=okT0_up hT0 (largeM_un g1)
 have h2:okT M (fun i=>coolL (tng u i))=true:=okT0_up hU0 (largeM_un g2)
 have e1:N≤71:=by have:=largeM_le g1;omega
 have e2:M≤71:=by have:=largeM_le g2;omega
 have d1:decide (N≤71)=true:=decide_eq_true e1
 have d2:decide (M≤71)=true:=decide_eq_true e2
 have c1:checkB N t=goodQ N t:=check_good (t:=t) e1
 have c2:checkB M u=goodQ M u:=check_good (t:=u) e2
 cases hc:checkB N t with
 |false=>exact call0 (muC_ok _) 60 Tryz.func8 (mu_c N M t u) (by rw [ht,hu,z1,z2,g1,g2,h1,d1, ←c1,hc];rfl) rfl
 |true=>
 cases hd:checkB M u with
 |false=>exact call0 (muC_ok _) 60 Tryz.func8 (mu_d N M t u) (by rw [ht,hu,z1,z2,g1,g2,h1,d1,h2,d2, ←c1,hc, ←c2,hd];rfl) rfl
 |true=>
 have hT:=TOK.of h1 e1
 have hU:=TOK.of h2 e2
 have q1:dgQ N t ((N/2:Nat):Int)=true:=dgQ_mid (t:=t) hT hc
 have q2:dgQ M u ((M/2:Nat):Int)=true:=dgQ_mid (t:=u) hU hd
 have l1:decide ((dgL N t [] ((N/2:Nat):Int)).length=32)=true:=decide_eq_true dgL_len
 have l2:decide ((dgL M u [] ((M/2:Nat):Int)).length=32)=true:=decide_eq_true dgL_len
 cases hs:Tr.treeB N M t u with
 |true=>
  have e:=mu_e N M t u
  rw [decide_eq_true (alike_plain (t:=t) (u:=u) hT hc hd hs)] at e
  exact call0 (muC_ok _) 60 Tryz.func8 e (by rw [ht,hu,z1,z2,g1,g2,h1,d1,h2,d2, ←c1,hc, ←c2,hd,q1,q2,l1,l2,hs];rfl) rfl
 |false=>
 by_cases hq:dgL N t [] ((N/2:Nat):Int)=dgL M u [] ((M/2:Nat):Int)
 ·obtain ⟨n,hn,hN,_,t2,t3,_⟩:=form_ok (t:=t) hT hc okt
  obtain ⟨m,hm,hM,_,u2,u3,_⟩:=form_ok (t:=u) hU hd oku
  have e:=mu_g N M t u
  have hcol:colB (N+M) (txB N t u)=true:=unlike_plain (t:=t) (u:=u) hT hU hc hd okt oku hs (by
   unfold dgL at hq
   rw [q1,q2] at hq
   exact hq)
  rw [show colB (N+M) (txOf fun i=>coolL (mergeP (Nat.ble (i+1) N) (txG (fun i=>rtxV t [] (i:Int)) i) (txG (fun i=>rtxV u [] (i:Int)) (i-N))))=true from hcol] at e
  have by8:∀l:List Int,By l→u8R l=true:=fun l h=>List.all_eq_true.2 fun x hx=>by
   have:=h x hx
   simp only [Bool.and_eq_true,decide_eq_true_eq]
   omega
  have all:((List.range (N+M)).all fun i=>isTx (coolL (mergeP (Nat.ble (i+1) N) (txG (fun i=>rtxV t [] (i:Int)) i) (txG (fun i=>rtxV u [] (i:Int)) (i-N))))&&decide ((txB N t u i).length<274877900000)&&u8R (txB N t u i))=true:=List.all_eq_true.2 fun i hi=>by
   have hi:=List.mem_range.1 hi
   have k:By (txB N t u i)∧(txB N t u i).length≤300:=by
    by_cases h:i<N
    ·rw [txB_lo h];exact t2 i h
    ·obtain ⟨j,rfl⟩:∃j,i=N+j:=⟨i-N,by omega⟩
     rw [txB_hi];exact u2 j (by omega)
   rw [txB_is,by8 _ k.1,decide_eq_true (show (txB N t u i).length<274877900000 by omega)];rfl
  have r1:((List.range N).all fun i=>rtOK N t [] ((i:Nat):Int) 8)=true:=List.all_eq_true.2 fun i hi=>t3 i (List.mem_range.1 hi)
  have r2:((List.range M).all fun i=>rtOK M u [] ((i:Nat):Int) 8)=true:=List.all_eq_true.2 fun i hi=>u3 i (List.mem_range.1 hi)
  have r3:((List.range M).all fun i=>okParts (txG (fun i=>rtxV u [] ((i:Nat):Int)) i))=true:=List.all_eq_true.2 fun i _=>rfl
  refine call0 (muC_ok _) 60 Tryz.func8 e ?_ rfl
  rw [ht,hu,z1,z2,g1,g2,h1,d1,h2,d2, ←c1,hc, ←c2,hd,q1,q2,l1,l2,hs,decide_eq_true hq,r1,r2]
  simp only [andT_iff,Bool.and_eq_true,decide_eq_true_eq,true_and,and_true,Bool.not_true,Bool.not_false]
  exact ⟨⟨⟨Nat.le_refl _,Nat.le_refl _⟩,r3,by omega⟩,Nat.le_refl _,by omega,all⟩
 ·exact call0 (muC_ok _) 60 Tryz.func8 (mu_f N M t u) (by rw [ht,hu,z1,z2,g1,g2,h1,d1,h2,d2, ←c1,hc, ←c2,hd,q1,q2,l1,l2,hs,decide_eq_false hq];rfl) rfl
end
theorem markUnlike_law {N M:Nat} {t u:Nat→Nod} (hT0:okT0 N (tng t)=true) (okt:∀i,i<N→(t i).OK) (hU0:okT0 M (tng u)=true) (oku:∀i,i<M→(u i).OK):FnTr Tryz.prog 8 [.rol false 99 N (tng t),.rol false 99 M (tng u)] [] (.bool true) []:=unlike_all hT0 okt hU0 oku
end Go.Proofs.YthlnlcijnoadcaaGreatDoor.Mk
end
