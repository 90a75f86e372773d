/- This file holds the texts TsH, TsI, a section each. No conditions beyond those in the theorems. -/
import Derived.Test.YthlnlcijnoadcaaGreatDoorFTsG
set_option linter.all false
set_option maxRecDepth 100000
section
namespace Go.Proofs.YthlnlcijnoadcaaGreatDoor.Tr
open Go Go.Sy
theorem rgI_eq:nthC 2 rgR= .block 1 rgI:=by kernel_rfl
theorem rgR_nil:(atoms rgR).drop 4=[]:=by kernel_rfl
theorem rgI_nil:(atoms rgI).drop 6=[]:=by kernel_rfl
theorem rgT_nil:(atoms rgT).drop 4=[]:=by kernel_rfl
theorem rgT_eq:nthC 5 rgI= .cond (.tmp 65) rgT .skip:=by kernel_rfl
def dupJ (t:Nat→Nod) (x j:Nat):Bool:=!((t (2*j)).used&&((t (2*j)).name==(t x).name))
def goodQJ (N:Nat) (t:Nat→Nod) (n x:Nat):Bool:=bif !(t x).used then nsB (t x) zeroN else bif x%2==1 then upperQ N t x n else lfN (t x)&&(List.range (x/2)).all (dupJ t x)
def goodQ (N:Nat) (t:Nat→Nod):Bool:=!(leavesV N==0)&&(!emptyB N t (IntKind.i64.wrap ((leavesV N).tdiv 2)).toNat&&(List.range N).all (goodQJ N t (leavesV N).toNat))
theorem oddN (i:Nat):(((i:Nat):Int).tmod 2==1)=(i%2==1):=by
 rw [show (2:Int)=((2:Nat):Int) from rfl, ←Int.ofNat_tmod]
 cases h:(i%2==1) with
 |true=>rw [eq_of_beq h];rfl
 |false=>
  rw [beq_eq_false_iff_ne] at h ⊢
  omega
theorem evN {i:Nat} (h:(i%2==1)=false):(i%2==0)=true:=by
 rw [beq_eq_false_iff_ne] at h
 rw [beq_iff_eq]
 omega
theorem odN {i:Nat} (h:(i%2==1)=true):(i%2==0)=false:=by
 rw [beq_iff_eq] at h
 rw [beq_eq_false_iff_ne]
 omega
section
variable {N:Nat} {t:Nat→Nod} {n x j:Nat}
theorem gj_go (hle:N≤71) (hx:x<N) (hj:j<x/2) (hb:dupJ t x j=true):Tr Tryz.prog none 0 rgJ (rgY N t n x ((2*j:Nat):Int)) .normal (rgY N t n x ((2*(j+1):Nat):Int)):=by
 have hlt:2*j<x:=by omega
 have hlN:2*j<N:=by omega
 have hw:IntKind.i64.wrap (((2*j:Nat):Int)+2)=((2*(j+1):Nat):Int):=by rw [wrapI (by omega) (by omega)];omega
 unfold dupJ at hb
 cases hu:(t (2*j)).used with
 |false=>
  have e:=rg_ja N t n x ((2*j:Nat):Int)
  rw [hw] at e
  exact Tr.cutX (rgC_ok [(74,true),(81,false)]) 60 _ 0 (Nat.le_refl _) (s':=rgY N t n x ((2*(j+1):Nat):Int)) _ e (rg_ja' N t n x _) (by
   rw [Int.toNat_natCast,ltN hlt,inBN hlN,decide_eq_true hlN,show (t (2*j)).1=false from hu];rfl)
 |true=>
  rw [hu,Bool.true_and] at hb
  have e:=rg_jb N t n x ((2*j:Nat):Int)
  rw [hw] at e
  exact Tr.cutX (rgC_ok [(74,true),(81,true),(93,false)]) 60 _ 0 (Nat.le_refl _) (s':=rgY N t n x ((2*(j+1):Nat):Int)) _ e (rg_jb' N t n x _) (by
   rw [Int.toNat_natCast,Int.toNat_natCast,ltN hlt,inBN hlN,decide_eq_true hlN,inBN hx,decide_eq_true hx,show (t (2*j)).1=true from hu,hb];rfl)
theorem gj_no (hx:x<N) (hj:j<x/2) (hb:dupJ t x j=false):Tr Tryz.prog none 0 rgJ (rgY N t n x ((2*j:Nat):Int)) .ret (bS 95 2 false):=by
 have hlt:2*j<x:=by omega
 have hlN:2*j<N:=by omega
 unfold dupJ at hb
 have hb':(t (2*j)).used=true∧((t (2*j)).name==(t x).name)=true:=by simpa using hb
 exact Tr.cutX (rgC_ok [(74,true),(81,true),(93,true)]) 60 _ 0 (Nat.le_refl _) (s':=bS 95 2 false) _ (rg_jx N t n x _) (rg_jx' N t n x _) (by
  rw [Int.toNat_natCast,Int.toNat_natCast,ltN hlt,inBN hlN,decide_eq_true hlN,inBN hx,decide_eq_true hx,show (t (2*j)).1=true from hb'.1,hb'.2];rfl)
theorem gl_head (hx:x<N) (hu:(t x).used=true) (hp:(x%2==1)=false) {y:Exit} {s':St} (g:Tr Tryz.prog none 0 rgT (rgX N t n x [(65,.bool true)]) y s') (hy:∀j,y≠.exit j) (h5:y= .normal→s'=rgS N t n x) (hr:y= .normal∨y= .ret) (hle:N≤71):
  (y= .normal→Tr Tryz.prog none 0 rgR (rgS N t n x) .normal (rgS N t n ((x+1:Nat):Int)))∧(y= .ret→Tr Tryz.prog none 0 rgR (rgS N t n x) .ret s'):=by
 have e:=rg_nx N t n x
 rw [wrapS (by omega)] at e
 have head:∀{z:Exit} {s2:St},TrL Tryz.prog none 0 ((atoms rgR).drop 2) (rgS N t n x) z s2→Tr Tryz.prog none 0 rgR (rgS N t n x) z s2:=fun g=>Tr.of_atoms (TrL.itemsX (rgC_ok [(21,true)]) 60 2 _ 0 (Nat.zero_le _) (s1:=rgS N t n x) _ (rg_in N t n x) (rg_in' N t n x) (by rw [ltN hx];rfl) (by decide) rfl g)
 have hi:∀{z:Exit} {s2:St},TrL Tryz.prog none 0 ((atoms rgI).drop 5) (rgX N t n x [(65,.bool true)]) z s2→TrL Tryz.prog none 0 (atoms rgI) (rgS N t n x) z s2:=fun g=>TrL.itemsX (rgC_ok [(28,true),(43,true),(47,false),(60,true),(64,true)]) 60 5 _ 0 (Nat.zero_le _) (s1:=rgX N t n x [(65,.bool true)]) _ (rg_l N t n x) (rg_l' N t n x) (by
  rw [Int.toNat_natCast,inBN hx,decide_eq_true hx,show (t x).1=true from hu,oddN,parN,hp,evN hp];rfl) (by decide) rfl g
 have hc:Tr Tryz.prog none 0 (nthC 5 rgI) (rgX N t n x [(65,.bool true)]) y s':=by
  rw [rgT_eq]
  exact TrX.to (H:=HT) (H':=HT) (TrX.cond_true (by kernel_rfl) (TrX.of g fun _ _ _=>trivial)) fun _ _ _=>trivial
 constructor
 ·rintro rfl
  obtain rfl:=h5 rfl
  refine head (TrL.item 2 (by decide) (s1:=rgS N t n x) ?_ (TrL.item 3 (by decide) (Tr.cutX (rgC_ok []) 60 _ 0 (Nat.le_refl _) (s':=rgS N t n ((x+1:Nat):Int)) _ e (rg_nx' N t n x) rfl) (TrL.nil rgR_nil)))
  rw [rgI_eq]
  exact Tr.block_pass (Tr.of_atoms (hi (TrL.item 5 (by decide) hc (TrL.nil rgI_nil)))) (by simp)
 ·rintro rfl
  refine head (TrL.leave 2 (by decide) (by simp) ?_)
  rw [rgI_eq]
  exact Tr.block_pass (Tr.of_atoms (hi (TrL.leave 5 (by decide) (by simp) hc))) (by simp)
theorem g_good (hT:TOK N t) (hn:n∈sizes) (hN:N=2*n-1) (hx:x<N) (hb:goodQJ N t n x=true):Tr Tryz.prog none 0 rgR (rgS N t n x) .normal (rgS N t n ((x+1:Nat):Int)):=by
 have hle:=hT.le
 unfold goodQJ at hb
 have hok:okT N (fun i=>coolL (tng t i))=true:=okT_tng hT
 cases hu:(t x).used with
 |false=>
  rw [hu] at hb
  have hb:nsB (t x) zeroN=true:=hb
  have e:=rg_u1 N t n x
  rw [wrapS (by omega)] at e
  exact Tr.cutX (rgC_ok _) 60 _ 0 (Nat.le_refl _) (s':=rgS N t n ((x+1:Nat):Int)) _ e (rg_u1' N t n x) (by
   rw [Int.toNat_natCast,ltN hx,inBN hx,decide_eq_true hx,show nodLen (t x)=true from nat_parts hT hx,show nsB (t x) ⟨false,0,List.replicate 32 0,List.replicate 32 0,List.replicate 32 0,[]⟩=true from hb,hu];rfl)
 |true=>
  rw [hu] at hb
  cases hp:(x%2==1) with
  |true=>
   rw [hp] at hb
   have hb:upperQ N t x n=true:=hb
   have e:=rg_p1 N t n x
   rw [wrapS (by omega)] at e
   exact Tr.cutX (rgC_ok _) 60 _ 0 (Nat.le_refl _) (s':=rgS N t n ((x+1:Nat):Int)) _ e (rg_p1' N t n x) (by
    rw [Int.toNat_natCast,Int.toNat_natCast,ltN hx,inBN hx,decide_eq_true hx,show (t x).1=true from hu,oddN,parN,hp,odN hp,hok,seat_mk hn hN hx,show upperQ N (treeOf fun i=>coolL (tng t i)) x n=true from hb];rfl)
  |false=>
   rw [hp] at hb
   obtain ⟨h1,h2⟩:=Bool.and_eq_true_iff.1 (show (lfN (t x)&&(List.range (x/2)).all (dupJ t x))=true from hb)
   refine (gl_head hx hu hp (y:=.normal) (s':=rgS N t n x) ?_ (by simp) (fun _=>rfl) (.inl rfl) hle).1 rfl
   refine Tr.of_atoms (TrL.itemsX (rgC_ok [(70,true)]) 60 3 _ 0 (Nat.zero_le _) (s1:=rgY N t n x ((2*0:Nat):Int)) _ (rg_l1 N t n x) (rg_l1' N t n x) ?_ (by decide) rfl (TrL.item 3 (by decide) ?_ (TrL.nil rgT_nil)))
   ·rw [Int.toNat_natCast,inBN hx,decide_eq_true hx]
    show andT (andT (andT true true) (true&&(true&&true))) (lfN (t x))=true
    rw [h1];rfl
   ·have hz:x=2*(x/2):=by
     have:=eq_of_beq (evN hp);omega
    refine Tr.loop 2 (by kernel_rfl) (fun j=>rgY N t n x ((2*j:Nat):Int)) (x/2) (fun j hj=>gj_go hle hx hj (List.all_eq_true.1 h2 j (List.mem_range.2 hj))) ?_
    exact Tr.cutX (rgC_ok [(74,false)]) 60 _ 0 (Nat.le_refl _) _ (rg_jz N t n x _) (rg_jz' N t n x _) (by rw [nltN (by omega)];rfl)
theorem g_bad (hT:TOK N t) (hn:n∈sizes) (hN:N=2*n-1) (hx:x<N) (hb:goodQJ N t n x=false):Tr Tryz.prog none 0 rgR (rgS N t n x) .ret (bS 95 2 false):=by
 have hle:=hT.le
 unfold goodQJ at hb
 have hok:okT N (fun i=>coolL (tng t i))=true:=okT_tng hT
 cases hu:(t x).used with
 |false=>
  rw [hu] at hb
  have hb:nsB (t x) zeroN=false:=hb
  exact Tr.cutX (rgC_ok _) 60 _ 0 (Nat.le_refl _) (s':=bS 95 2 false) _ (rg_u0 N t n x) (rg_u0' N t n x) (by
   rw [Int.toNat_natCast,ltN hx,inBN hx,decide_eq_true hx,show nodLen (t x)=true from nat_parts hT hx,show nsB (t x) ⟨false,0,List.replicate 32 0,List.replicate 32 0,List.replicate 32 0,[]⟩=false from hb,hu];rfl)
 |true=>
  rw [hu] at hb
  cases hp:(x%2==1) with
  |true=>
   rw [hp] at hb
   have hb:upperQ N t x n=false:=hb
   exact Tr.cutX (rgC_ok _) 60 _ 0 (Nat.le_refl _) (s':=bS 95 2 false) _ (rg_p0 N t n x) (rg_p0' N t n x) (by
    rw [Int.toNat_natCast,Int.toNat_natCast,ltN hx,inBN hx,decide_eq_true hx,show (t x).1=true from hu,oddN,hp,hok,seat_mk hn hN hx,show upperQ N (treeOf fun i=>coolL (tng t i)) x n=false from hb];rfl)
  |false=>
   rw [hp] at hb
   have hb:(lfN (t x)&&(List.range (x/2)).all (dupJ t x))=false:=hb
   refine (gl_head hx hu hp (y:=.ret) (s':=bS 95 2 false) ?_ (by simp) (by simp) (.inr rfl) hle).2 rfl
   cases h1:lfN (t x) with
   |false=>
    exact Tr.cutX (rgC_ok [(70,false)]) 60 _ 0 (Nat.le_refl _) (s':=bS 95 2 false) _ (rg_l0 N t n x) (rg_l0' N t n x) (by
     rw [Int.toNat_natCast,inBN hx,decide_eq_true hx]
     show andT (andT (andT true true) (true&&(true&&true))) (!lfN (t x))=true
     rw [h1];rfl)
   |true=>
    rw [h1,Bool.true_and, ←firstN_all] at hb
    cases hq:firstN (dupJ t x) (x/2) with
    |none=>rw [hq] at hb;cases hb
    |some j=>
     obtain ⟨j1,j2,j3⟩:=find_range hq
     refine Tr.of_atoms (TrL.itemsX (rgC_ok [(70,true)]) 60 3 _ 0 (Nat.zero_le _) (s1:=rgY N t n x ((2*0:Nat):Int)) _ (rg_l1 N t n x) (rg_l1' N t n x) ?_ (by decide) rfl (TrL.leave 3 (by decide) (by simp) (Tr.loopRet 2 (by kernel_rfl) (TrR.for (by simp) (fun j=>rgY N t n x ((2*j:Nat):Int)) j (fun i hi=>gj_go hle hx (by omega) (j3 i hi)) (gj_no hx j1 j2)))))
     rw [Int.toNat_natCast,inBN hx,decide_eq_true hx]
     show andT (andT (andT true true) (true&&(true&&true))) (lfN (t x))=true
     rw [h1];rfl
theorem good_fn (hT:TOK N t):FnTr Tryz.prog 19 [.rol false 99 N (tng t)] [] (.bool (goodQ N t)) []:=by
 have hle:=hT.le
 have hok:okT N (fun i=>coolL (tng t i))=true:=okT_tng hT
 have h72:decide (((N:Nat):Int)<72)=true:=decide_eq_true (by omega)
 unfold goodQ
 cases h0:(leavesV N==0) with
 |true=>exact call0 (rgC_ok _) 60 Tryz.func19 (rg_0 N t) (by rw [h72,h0];rfl) rfl
 |false=>
  obtain ⟨n,hn,hv,hN⟩:=leaves_sizes hle h0
  obtain ⟨l1,l2⟩:=leaves_half (n:=N) hle
  cases h1:emptyB N t (IntKind.i64.wrap ((leavesV ((N:Nat):Int)).tdiv 2)).toNat with
  |true=>exact call0 (rgC_ok _) 60 Tryz.func19 (rg_1 N t) (by
    rw [h72,h0,hok,decide_eq_true hle,l1,l2,show emptyB N (treeOf fun i=>coolL (tng t i)) (IntKind.i64.wrap ((leavesV ((N:Nat):Int)).tdiv 2)).toNat=true from h1];rfl) rfl
  |false=>
   have e:=rg_head N t
   rw [hv] at e
   have key:=FnTr.scan (P:=Tryz.prog) (args:=[.rol false 99 N (tng t)]) (h:=[]) (h':=[]) Tryz.func19 rfl 5 0 (fun x:Nat=>rgS N t n ((x:Nat):Int)) (goodQJ N t n) N
    (fun z s' g=>TrL.itemsX (rgC_ok [(10,false),(15,true)]) 60 5 _ 0 (by simp) (s1:=rgS N t n ((0:Nat):Int)) _ e (rg_head' N t) (by
     rw [h72,h0,hok,decide_eq_true hle,l1,l2,show emptyB N (treeOf fun i=>coolL (tng t i)) (IntKind.i64.wrap ((leavesV ((N:Nat):Int)).tdiv 2)).toNat=false from h1];rfl) (by decide) rfl g) (by decide) (by kernel_rfl)
    (fun x hx hb _=>g_good hT hn hN hx hb) (fun i=>bS 95 2 false) (fun i=>[.bool false]) (fun x hx hb _=>⟨g_bad hT hn hN hx hb,rfl,rfl⟩) (sE:=⟨slotsOf 95 [],[],true⟩) (sE':=bS 95 2 true) (vE:=[.bool true]) (xE:=.ret) (fun _=>?_) (fun _=>⟨?_,.inl rfl,rfl,rfl⟩)
   ·rw [oneOf_scan (g:=SV.bool) (vF:=fun _:Nat=>false) (vE:=true)] at key
    have hq:scanV (goodQJ N t n) N (fun _=>false) true=(List.range N).all (goodQJ N t n):=by
     unfold scanV;rw [←firstN_all];cases firstN _ _<;>rfl
    rw [hq] at key
    rw [hv,Int.toNat_natCast]
    exact key
   ·exact Tr.cutX (rgC_ok [(21,false)]) 60 _ 0 (Nat.le_refl _) (s':=⟨slotsOf 95 [],[],true⟩) _ (rg_end N t n _) (rg_end' N t n _) (by rw [nltN (Nat.le_refl _)];rfl)
   ·exact TrL.rest (rgC_ok []) 60 (by kernel_rfl) rfl
end
end Go.Proofs.YthlnlcijnoadcaaGreatDoor.Tr
end
section
namespace Go.Proofs.YthlnlcijnoadcaaGreatDoor.Tr
open Go Go.Sy
noncomputable def rsC (l:List (Nat×Bool)):Ctr:=mk (P:=Tryz.prog) [sameNodeE] [] (uT l)
theorem rsC_ok (l:List (Nat×Bool)):CtrSound Tryz.prog (rsC l):=mk_sound _ InlOK.nil _ _
noncomputable def rsBd:Code:=bodyOf Tryz.f17
noncomputable def rsS (N M:Nat) (t u:Nat→Nod) (i:Int):St:=⟨slotsOf 27 [(0,.rol false 99 N (tng t)),(1,.rol false 99 M (tng u)),(5,.int .i64 i)],[],true⟩
theorem rs_n (N M:Nat) (t u:Nat→Nod):(callS Tryz.prog (rsC [(10,true)]) 60 Tryz.f17 [.rol false 99 N (tng t),.rol false 99 M (tng u)] []).map (fun x=>(x.1,x.2.2))=some (.bool false,andT true (((N:Nat):Int) != ((M:Nat):Int))):=by kernel_rfl
theorem rs_head (N M:Nat) (t u:Nat→Nod):resX (cutR [0,1,5] 0 ((execL Tryz.prog (rsC [(10,false)]) 60 0 4 (atoms rsBd) ⟨slots0 Tryz.f17.ntmps [.rol false 99 N (tng t),.rol false 99 M (tng u)],[],true⟩).map fun s=>(Exit.normal,s)))=some (.normal,(rsS N M t u 0).t,[]):=by kernel_rfl
theorem rs_head' (N M:Nat) (t u:Nat→Nod):obX (cutR [0,1,5] 0 ((execL Tryz.prog (rsC [(10,false)]) 60 0 4 (atoms rsBd) ⟨slots0 Tryz.f17.ntmps [.rol false 99 N (tng t),.rol false 99 M (tng u)],[],true⟩).map fun s=>(Exit.normal,s)))=(andT true !((N:Nat):Int) != ((M:Nat):Int)):=by kernel_rfl
theorem rs_go (N M:Nat) (t u:Nat→Nod) (i:Int):resX (cutR [0,1,5] 0 (exec Tryz.prog (rsC [(14,true),(26,false)]) 60 0 (inner (inner (nthC 4 rsBd))) (rsS N M t u i)))=some (.normal,(rsS N M t u (IntKind.i64.wrap (i+1))).t,[]):=by kernel_rfl
theorem rs_go' (N M:Nat) (t u:Nat→Nod) (i:Int):obX (cutR [0,1,5] 0 (exec Tryz.prog (rsC [(14,true),(26,false)]) 60 0 (inner (inner (nthC 4 rsBd))) (rsS N M t u i)))=(andT (andT (andT (andT (andT (andT (andT true (decide (i<((N:Nat):Int)))) (inB i N)) (true&&(decide (i.toNat<N)&&true))) (inB i M)) (true&&(decide (i.toNat<M)&&true))) (andT true (nodLen {used:=(t i.toNat).used,name:=(t i.toNat).name,key:=(t i.toNat).key,sign:=(t i.toNat).sign,par:=(t i.toNat).par,un:=(t i.toNat).un}&&nodLen {used:=(u i.toNat).used,name:=(u i.toNat).name,key:=(u i.toNat).key,sign:=(u i.toNat).sign,par:=(u i.toNat).par,un:=(u i.toNat).un}))) !!nsB {used:=(t i.toNat).used,name:=(t i.toNat).name,key:=(t i.toNat).key,sign:=(t i.toNat).sign,par:=(t i.toNat).par,un:=(t i.toNat).un} {used:=(u i.toNat).used,name:=(u i.toNat).name,key:=(u i.toNat).key,sign:=(u i.toNat).sign,par:=(u i.toNat).par,un:=(u i.toNat).un}):=by kernel_rfl
theorem rs_no (N M:Nat) (t u:Nat→Nod) (i:Int):resX (cutR [4] 0 (exec Tryz.prog (rsC [(14,true),(26,true)]) 60 0 (inner (inner (nthC 4 rsBd))) (rsS N M t u i)))=some (.ret,(bS 27 4 false).t,[]):=by kernel_rfl
theorem rs_no' (N M:Nat) (t u:Nat→Nod) (i:Int):obX (cutR [4] 0 (exec Tryz.prog (rsC [(14,true),(26,true)]) 60 0 (inner (inner (nthC 4 rsBd))) (rsS N M t u i)))=(andT (andT (andT (andT (andT (andT (andT true (decide (i<((N:Nat):Int)))) (inB i N)) (true&&(decide (i.toNat<N)&&true))) (inB i M)) (true&&(decide (i.toNat<M)&&true))) (andT true (nodLen {used:=(t i.toNat).used,name:=(t i.toNat).name,key:=(t i.toNat).key,sign:=(t i.toNat).sign,par:=(t i.toNat).par,un:=(t i.toNat).un}&&nodLen {used:=(u i.toNat).used,name:=(u i.toNat).name,key:=(u i.toNat).key,sign:=(u i.toNat).sign,par:=(u i.toNat).par,un:=(u i.toNat).un}))) !nsB {used:=(t i.toNat).used,name:=(t i.toNat).name,key:=(t i.toNat).key,sign:=(t i.toNat).sign,par:=(t i.toNat).par,un:=(t i.toNat).un} {used:=(u i.toNat).used,name:=(u i.toNat).name,key:=(u i.toNat).key,sign:=(u i.toNat).sign,par:=(u i.toNat).par,un:=(u i.toNat).un}):=by kernel_rfl
theorem rs_end (N M:Nat) (t u:Nat→Nod) (i:Int):resX (cutR [] 0 (exec Tryz.prog (rsC [(14,false)]) 60 0 (inner (inner (nthC 4 rsBd))) (rsS N M t u i)))=some (.exit 0,slotsOf 27 [],[]):=by kernel_rfl
theorem rs_end' (N M:Nat) (t u:Nat→Nod) (i:Int):obX (cutR [] 0 (exec Tryz.prog (rsC [(14,false)]) 60 0 (inner (inner (nthC 4 rsBd))) (rsS N M t u i)))=(andT true !decide (i<((N:Nat):Int))):=by kernel_rfl
section
variable {N M:Nat} {t u:Nat→Nod}
theorem rSame_fn (h:N≤274877906944) (hT:PARTS N t) (hU:PARTS M u):FnTr Tryz.prog 17 [.rol false 99 N (tng t),.rol false 99 M (tng u)] [] (.bool (treeB N M t u)) []:=by
 unfold treeB
 cases h0:((N:Int) != (M:Int)) with
 |true=>exact call0 (rsC_ok [(10,true)]) 60 Tryz.func17 (rs_n N M t u) (by rw [h0];rfl) rfl
 |false=>
  have hNM:N=M:=by
   have:((N:Int)==(M:Int))=true:=by simpa [bne] using h0
   have:=eq_of_beq this
   omega
  subst hNM
  have key:=FnTr.scan (P:=Tryz.prog) (args:=[.rol false 99 N (tng t),.rol false 99 N (tng u)]) (h:=[]) (h':=[]) Tryz.func17 rfl 4 0 (fun j:Nat=>rsS N N t u ((j:Nat):Int)) (fun i=>nsB (t i) (u i)) N
   (fun x s' g=>TrL.itemsX (rsC_ok [(10,false)]) 60 4 _ 0 (by simp) (s1:=rsS N N t u ((0:Nat):Int)) _ (rs_head N N t u) (rs_head' N N t u) (by rw [h0];rfl) (by decide) rfl g) (by decide) (by kernel_rfl)
   (fun j hj hb _=>?_) (fun i=>bS 27 4 false) (fun i=>[.bool false]) (fun j hj hb _=>⟨?_,rfl,rfl⟩) (sE:=⟨slotsOf 27 [],[],true⟩) (sE':=bS 27 4 true) (vE:=[.bool true]) (xE:=.ret) (fun _=>?_) (fun _=>⟨?_,.inl rfl,rfl,rfl⟩)
  ·rw [oneOf_scan (g:=SV.bool) (vF:=fun _:Nat=>false) (vE:=true)] at key
   exact key
  ·have e:=rs_go N N t u j
   rw [wrapS (by omega)] at e
   exact Tr.cutX (rsC_ok [(14,true),(26,false)]) 60 _ 0 (Nat.le_refl _) (s':=rsS N N t u ((j+1:Nat):Int)) _ e (rs_go' N N t u j) (by
    rw [Int.toNat_natCast,ltN hj,inBN hj,decide_eq_true hj,show nodLen (t j)=true from hT j hj,show nodLen (u j)=true from hU j hj,show nsB (t j) (u j)=true from hb];rfl)
  ·exact Tr.cutX (rsC_ok [(14,true),(26,true)]) 60 _ 0 (Nat.le_refl _) (s':=bS 27 4 false) _ (rs_no N N t u j) (rs_no' N N t u j) (by
    rw [Int.toNat_natCast,ltN hj,inBN hj,decide_eq_true hj,show nodLen (t j)=true from hT j hj,show nodLen (u j)=true from hU j hj,show nsB (t j) (u j)=false from hb];rfl)
  ·exact Tr.cutX (rsC_ok [(14,false)]) 60 _ 0 (Nat.le_refl _) (s':=⟨slotsOf 27 [],[],true⟩) _ (rs_end N N t u _) (rs_end' N N t u _) (by rw [nltN (Nat.le_refl _)];rfl)
  ·exact TrL.rest (rsC_ok []) 60 (by kernel_rfl) rfl
theorem TOK.parts (h:TOK N t):PARTS N t:=fun _ hi=>nat_parts h hi
end
end Go.Proofs.YthlnlcijnoadcaaGreatDoor.Tr
end
