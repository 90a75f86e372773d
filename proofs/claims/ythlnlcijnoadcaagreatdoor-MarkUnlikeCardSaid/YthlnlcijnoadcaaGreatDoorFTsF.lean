/- This file holds the texts TsE, TsF, a section each. No conditions beyond those in the theorems. -/
import Derived.Test.YthlnlcijnoadcaaGreatDoorFTsD
set_option linter.all false
section
namespace Go.Sy
open Go
theorem TrL.nil {P:Program} {ro:Option Nat} {k:Nat} {l:List Code} {s:St} (h:l=[]):TrL P ro k l s .normal s:=by subst h;exact ⟨rfl,rfl⟩
end Go.Sy
namespace Go.Proofs.YthlnlcijnoadcaaGreatDoor.Tr
open Go Go.Sy
def inJ (t:Nat→Nod) (x:Int) (n:Nat) (i:Int) (j:Nat):Bool:=!(((2*j+1:Nat):Int) != x&&((t (2*j+1)).used&&(abvB x ((2*j+1:Nat):Int) n&&(abvB ((2*j+1:Nat):Int) (2*i) n&&!inQ i (t (2*j+1)).un))))
def outJ (t:Nat→Nod) (x:Int) (n:Nat) (un:List Int) (k:Nat):Bool:=!decide (un.getD k 0<0)&&(!decide (un.getD k 0≥n)&&(!(decide ((k:Int)>0)&&decide (un.getD k 0≤un.getD (k-1) 0))&&((t (2*un.getD k 0).toNat).used&&abvB x (2*un.getD k 0) n)))
def upQJ (N:Nat) (t:Nat→Nod) (x:Int) (n:Nat) (un:List Int) (k:Nat):Bool:=outJ t x n un k&&(List.range (N/2)).all (inJ t x n (un.getD k 0))
def upperQ (N:Nat) (t:Nat→Nod) (x:Int) (n:Nat):Bool:=!((t x.toNat).name != 0)&&(decide ((t x.toNat).sign=List.replicate 32 0)&&(List.range (t x.toNat).un.length).all (upQJ N t x n (t x.toNat).un))
section
variable {N:Nat} {t:Nat→Nod} {x:Int} {n k j:Nat}
theorem leaf_node (hn:n∈sizes) {i:Int} (h0:0≤i) (h1:i<n):nodeB (2*i) n=true:=by
 rw [node_of hn,Bool.and_eq_true,decide_eq_true_eq,decide_eq_true_eq]
 omega
theorem rj_go (hT:TOK N t) (hn:n∈sizes) (hN:N=2*n-1) (hx:nodeB x n=true) {i:Int} (h0:0≤i) (h1:i<n) (hj:j<N/2) (hb:inJ t x n i j=true):
  Tr Tryz.prog none 0 rpJ (rpY N t x n k i ((2*j+1:Nat):Int)) .normal (rpY N t x n k i ((2*(j+1)+1:Nat):Int)):=by
 have hs:=sizes_le hn
 have hlt:2*j+1<N:=by omega
 have hw:IntKind.i64.wrap (((2*j+1:Nat):Int)+2)=((2*(j+1)+1:Nat):Int):=by rw [wrapI (by omega) (by omega)];omega
 have hw2:IntKind.i64.wrap (2*i)=2*i:=wrapI (by omega) (by omega)
 have hy:nodeB ((2*j+1:Nat):Int) n=true:=by
  rw [node_of hn,Bool.and_eq_true,decide_eq_true_eq,decide_eq_true_eq];omega
 have hn0:decide ((0:Int)≤(n:Int))=true:=decide_eq_true (by omega)
 unfold inJ at hb
 cases c1:(((2*j+1:Nat):Int) != x) with
 |false=>
  have e:=rp_ja N t x n k i ((2*j+1:Nat):Int)
  rw [hw] at e
  exact Tr.cutX (rpC_ok [(77,true),(82,false)]) 60 _ 1 (Nat.zero_le _) (s':=rpY N t x n k i ((2*(j+1)+1:Nat):Int)) _ e (rp_ja' N t x n k i _) (by rw [ltN hlt,c1];rfl)
 |true=>
 rw [c1,Bool.true_and] at hb
 cases c2:(t (2*j+1)).used with
 |false=>
  have e:=rp_jb N t x n k i ((2*j+1:Nat):Int)
  rw [hw] at e
  exact Tr.cutX (rpC_ok [(77,true),(82,true),(88,false)]) 60 _ 1 (Nat.zero_le _) (s':=rpY N t x n k i ((2*(j+1)+1:Nat):Int)) _ e (rp_jb' N t x n k i _) (by
   rw [Int.toNat_natCast,ltN hlt,c1,inBN hlt,decide_eq_true hlt,show (t (2*j+1)).1=false from c2];rfl)
 |true=>
 rw [c2,Bool.true_and] at hb
 cases c3:abvB x ((2*j+1:Nat):Int) n with
 |false=>
  have e:=rp_jc N t x n k i ((2*j+1:Nat):Int)
  rw [hw] at e
  exact Tr.cutX (rpC_ok [(77,true),(82,true),(88,true),(94,false)]) 60 _ 1 (Nat.zero_le _) (s':=rpY N t x n k i ((2*(j+1)+1:Nat):Int)) _ e (rp_jc' N t x n k i _) (by
   rw [Int.toNat_natCast,Int.toNat_natCast,ltN hlt,c1,inBN hlt,decide_eq_true hlt,show (t (2*j+1)).1=true from c2,hn0,hx,hy,c3];rfl)
 |true=>
 rw [c3,Bool.true_and] at hb
 cases c4:abvB ((2*j+1:Nat):Int) (2*i) n with
 |false=>
  have e:=rp_jd N t x n k i ((2*j+1:Nat):Int)
  rw [hw] at e
  exact Tr.cutX (rpC_ok [(77,true),(82,true),(88,true),(94,true),(101,false)]) 60 _ 1 (Nat.zero_le _) (s':=rpY N t x n k i ((2*(j+1)+1:Nat):Int)) _ e (rp_jd' N t x n k i _) (by
   rw [Int.toNat_natCast,Int.toNat_natCast,hw2,ltN hlt,c1,inBN hlt,decide_eq_true hlt,show (t (2*j+1)).1=true from c2,hn0,hx,hy,c3,leaf_node hn h0 h1,c4];rfl)
 |true=>
  rw [c4,Bool.true_and] at hb
  have c5:inQ i (t (2*j+1)).un=true:=by simpa using hb
  have e:=rp_je N t x n k i ((2*j+1:Nat):Int)
  rw [hw] at e
  exact Tr.cutX (rpC_ok [(77,true),(82,true),(88,true),(94,true),(101,true),(110,true)]) 60 _ 1 (Nat.zero_le _) (s':=rpY N t x n k i ((2*(j+1)+1:Nat):Int)) _ e (rp_je' N t x n k i _) (by
   rw [Int.toNat_natCast,Int.toNat_natCast,hw2,ltN hlt,c1,inBN hlt,decide_eq_true hlt,show (t (2*j+1)).1=true from c2,hn0,hx,hy,c3,leaf_node hn h0 h1,c4,decide_eq_true (hT.un _ hlt),c5];rfl)
theorem rj_no (hT:TOK N t) (hn:n∈sizes) (hN:N=2*n-1) (hx:nodeB x n=true) {i:Int} (h0:0≤i) (h1:i<n) (hj:j<N/2) (hb:inJ t x n i j=false):
  Tr Tryz.prog none 0 rpJ (rpY N t x n k i ((2*j+1:Nat):Int)) .ret (bS 113 6 false):=by
 have hs:=sizes_le hn
 have hlt:2*j+1<N:=by omega
 have hw2:IntKind.i64.wrap (2*i)=2*i:=wrapI (by omega) (by omega)
 have hy:nodeB ((2*j+1:Nat):Int) n=true:=by
  rw [node_of hn,Bool.and_eq_true,decide_eq_true_eq,decide_eq_true_eq];omega
 have hn0:decide ((0:Int)≤(n:Int))=true:=decide_eq_true (by omega)
 unfold inJ at hb
 rw [Bool.not_eq_false'] at hb
 simp only [Bool.and_eq_true] at hb
 obtain ⟨c1,c2,c3,c4,c5⟩:=hb
 exact Tr.cutX (rpC_ok [(77,true),(82,true),(88,true),(94,true),(101,true),(110,false)]) 60 _ 0 (Nat.zero_le _) (s':=bS 113 6 false) _ (rp_jx N t x n k i _) (rp_jx' N t x n k i _) (by
  rw [Int.toNat_natCast,Int.toNat_natCast,hw2,ltN hlt,c1,inBN hlt,decide_eq_true hlt,show (t (2*j+1)).1=true from c2,hn0,hx,hy,c3,leaf_node hn h0 h1,c4,decide_eq_true (hT.un _ hlt),c5];rfl)
theorem rj_end (hs:N≤71) {i:Int}:Tr Tryz.prog none 0 rpJ (rpY N t x n k i ((2*(N/2)+1:Nat):Int)) (.exit 2) (rpS N t x n k):=
 Tr.cutX (rpC_ok [(77,false)]) 60 _ 1 (Nat.zero_le _) _ (rp_jz N t x n k i _) (rp_jz' N t x n k i _) (by rw [nltN (by omega)];rfl)
end
end Go.Proofs.YthlnlcijnoadcaaGreatDoor.Tr
end
section
namespace Go.Proofs.YthlnlcijnoadcaaGreatDoor.Tr
open Go Go.Sy
theorem rpI_eq:nthC 2 rpR= .block 1 rpI:=by kernel_rfl
theorem rpR_nil:(atoms rpR).drop 4=[]:=by kernel_rfl
theorem rpI_nil:(atoms rpI).drop 5=[]:=by kernel_rfl
section
variable {N:Nat} {t:Nat→Nod} {x:Int} {n k:Nat}
theorem ro_head (hT:TOK N t) (hn:n∈sizes) (hN:N=2*n-1) (hx:nodeB x n=true) (hk:k<(t x.toNat).un.length) (hb:outJ t x n (t x.toNat).un k=true) {y:Exit} {s':St}
  (g:TrL Tryz.prog none 0 ((atoms rpI).drop 4) (rpY N t x n k ((t x.toNat).un.getD k 0) ((2*0+1:Nat):Int)) y s'):TrL Tryz.prog none 0 (atoms rpI) (rpS N t x n k) y s':=by
 obtain ⟨g1,g2⟩:=nodeB_lt hx
 have hxl:x.toNat<N:=by omega
 have hul:=hT.un _ hxl
 have hs:=sizes_le hn
 unfold outJ at hb
 simp only [Bool.and_eq_true] at hb
 obtain ⟨c1,c2,c3,c4,c5⟩:=hb
 have e1:¬(t x.toNat).un.getD k 0<0:=by simpa using c1
 have e2:¬(t x.toNat).un.getD k 0≥(n:Int):=by
  intro q
  rw [decide_eq_true q] at c2
  cases c2
 have hw2:IntKind.i64.wrap (2*(t x.toNat).un.getD k 0)=2*(t x.toNat).un.getD k 0:=wrapI (by omega) (by omega)
 have hn0:decide ((0:Int)≤(n:Int))=true:=decide_eq_true (by omega)
 have hlf:=leaf_node hn (i:=(t x.toNat).un.getD k 0) (by omega) (by omega)
 by_cases h0:(k:Int)>0
 ·have c3':decide ((t x.toNat).un.getD k 0≤(t x.toNat).un.getD (k-1) 0)=false:=by
   rw [decide_eq_true h0,Bool.true_and] at c3
   simpa using c3
  have hw1:IntKind.i64.wrap ((k:Int)-1)=((k-1:Nat):Int):=by rw [wrapI (by omega) (by omega)];omega
  have hk1:k-1<(t x.toNat).un.length:=by omega
  have e:=rp_hb N t x n k
  rw [Int.toNat_natCast] at e
  refine TrL.itemsX (rpC_ok [(37,false),(41,false),(45,true),(54,false),(63,true),(71,true)]) 60 4 _ 1 (Nat.zero_le _) (s1:=rpY N t x n k ((t x.toNat).un.getD k 0) ((2*0+1:Nat):Int)) _ e (rp_hb' N t x n k) ?_ (by decide) rfl g
  rw [Int.toNat_natCast,Int.toNat_natCast,hw1,Int.toNat_natCast,hw2,inBN hk,decide_eq_true hk,c1,c2,decide_eq_true h0,inBN hk1,decide_eq_true hk1,c3',inBt (by omega) (by omega),decide_eq_true (show (2*(t x.toNat).un.getD k 0).toNat<N by omega),
   show (t (2*(t x.toNat).un.getD k 0).toNat).1=true from c4,hn0,hx,hlf,c5]
  rfl
 ·have e:=rp_ha N t x n k
  rw [Int.toNat_natCast] at e
  refine TrL.itemsX (rpC_ok [(37,false),(41,false),(45,false),(63,true),(71,true)]) 60 4 _ 1 (Nat.zero_le _) (s1:=rpY N t x n k ((t x.toNat).un.getD k 0) ((2*0+1:Nat):Int)) _ e (rp_ha' N t x n k) ?_ (by decide) rfl g
  rw [Int.toNat_natCast,Int.toNat_natCast,hw2,inBN hk,decide_eq_true hk,c1,c2,decide_eq_false h0,inBt (by omega) (by omega),decide_eq_true (show (2*(t x.toNat).un.getD k 0).toNat<N by omega),
   show (t (2*(t x.toNat).un.getD k 0).toNat).1=true from c4,hn0,hx,hlf,c5]
  rfl
theorem ro_frame (hk:k<(t x.toNat).un.length) {y:Exit} {s':St} (g:TrL Tryz.prog none 0 ((atoms rpR).drop 2) (rpS N t x n k) y s'):Tr Tryz.prog none 0 rpR (rpS N t x n k) y s':=
 Tr.of_atoms (TrL.itemsX (rpC_ok [(28,true)]) 60 2 _ 1 (Nat.zero_le _) (s1:=rpS N t x n k) _ (rp_in N t x n k) (rp_in' N t x n k) (by rw [ltN hk];rfl) (by decide) rfl g)
theorem un_ok (hT:TOK N t) (hb:outJ t x n (t x.toNat).un k=true):0≤(t x.toNat).un.getD k 0∧(t x.toNat).un.getD k 0<n:=by
 have:=hT.le
 unfold outJ at hb
 simp only [Bool.and_eq_true] at hb
 obtain ⟨c1,c2,_⟩:=hb
 constructor
 ·have e1:¬(t x.toNat).un.getD k 0<0:=by simpa using c1
  omega
 ·have e2:¬(t x.toNat).un.getD k 0≥(n:Int):=by
   intro q
   rw [decide_eq_true q] at c2
   cases c2
  omega
theorem ro_good (hT:TOK N t) (hn:n∈sizes) (hN:N=2*n-1) (hx:nodeB x n=true) (hk:k<(t x.toNat).un.length) (hb:upQJ N t x n (t x.toNat).un k=true):
  Tr Tryz.prog none 0 rpR (rpS N t x n k) .normal (rpS N t x n ((k+1:Nat):Int)):=by
 obtain ⟨g1,g2⟩:=nodeB_lt hx
 have hul:=hT.un _ (show x.toNat<N by omega)
 obtain ⟨h1,h2⟩:=Bool.and_eq_true_iff.1 hb
 obtain ⟨u1,u2⟩:=un_ok hT h1
 have e:=rp_nx N t x n k
 rw [wrapS (by omega)] at e
 refine ro_frame hk (TrL.item 2 (by decide) (s1:=rpS N t x n k) ?_ (TrL.item 3 (by decide) (Tr.cutX (rpC_ok []) 60 _ 1 (Nat.zero_le _) (s':=rpS N t x n ((k+1:Nat):Int)) _ e (rp_nx' N t x n k) rfl) (TrL.nil rpR_nil)))
 rw [rpI_eq]
 refine Tr.block_pass (Tr.of_atoms (ro_head hT hn hN hx hk h1 (TrL.item 4 (by decide) ?_ (TrL.nil rpI_nil)))) (by simp)
 exact Tr.loop 2 (by kernel_rfl) (fun j=>rpY N t x n k ((t x.toNat).un.getD k 0) ((2*j+1:Nat):Int)) (N/2) (fun j hj=>rj_go hT hn hN hx u1 u2 hj (List.all_eq_true.1 h2 j (List.mem_range.2 hj))) (rj_end hT.le)
theorem ro_bad (hT:TOK N t) (hn:n∈sizes) (hN:N=2*n-1) (hx:nodeB x n=true) (hk:k<(t x.toNat).un.length) (hb:upQJ N t x n (t x.toNat).un k=false):
  Tr Tryz.prog none 0 rpR (rpS N t x n k) .ret (bS 113 6 false):=by
 obtain ⟨g1,g2⟩:=nodeB_lt hx
 have hxl:x.toNat<N:=by omega
 have hul:=hT.un _ hxl
 have hs:=sizes_le hn
 refine ro_frame hk (TrL.leave 2 (by decide) (by simp) ?_)
 rw [rpI_eq]
 refine Tr.block_pass ?_ (by simp)
 cases h1:outJ t x n (t x.toNat).un k with
 |true=>
  obtain ⟨u1,u2⟩:=un_ok hT h1
  unfold upQJ at hb
  rw [h1,Bool.true_and, ←firstN_all] at hb
  cases hq:firstN (inJ t x n ((t x.toNat).un.getD k 0)) (N/2) with
  |none=>rw [hq] at hb;cases hb
  |some j=>
   obtain ⟨j1,j2,j3⟩:=find_range hq
   exact Tr.of_atoms (ro_head hT hn hN hx hk h1 (TrL.leave 4 (by decide) (by simp) (Tr.loopRet 2 (by kernel_rfl) (TrR.for (by simp) (fun j=>rpY N t x n k ((t x.toNat).un.getD k 0) ((2*j+1:Nat):Int)) j (fun i hi=>rj_go hT hn hN hx u1 u2 (by omega) (j3 i hi)) (rj_no hT hn hN hx u1 u2 j1 j2)))))
 |false=>
  have hn0:decide ((0:Int)≤(n:Int))=true:=decide_eq_true (by omega)
  unfold outJ at h1
  cases c1:decide ((t x.toNat).un.getD k 0<0) with
  |true=>exact Tr.cutX (rpC_ok [(37,true)]) 60 _ 0 (Nat.zero_le _) (s':=bS 113 6 false) _ (rp_xn N t x n k) (rp_xn' N t x n k) (by rw [Int.toNat_natCast,inBN hk,decide_eq_true hk,c1];rfl)
  |false=>
  cases c2:decide ((t x.toNat).un.getD k 0≥(n:Int)) with
  |true=>exact Tr.cutX (rpC_ok [(37,false),(41,true)]) 60 _ 0 (Nat.zero_le _) (s':=bS 113 6 false) _ (rp_xg N t x n k) (rp_xg' N t x n k) (by rw [Int.toNat_natCast,inBN hk,decide_eq_true hk,c1,c2];rfl)
  |false=>
  have e1:=of_decide_eq_false c1
  have e2:=of_decide_eq_false c2
  have hw2:IntKind.i64.wrap (2*(t x.toNat).un.getD k 0)=2*(t x.toNat).un.getD k 0:=wrapI (by omega) (by omega)
  have hlf:=leaf_node hn (i:=(t x.toNat).un.getD k 0) (by omega) (by omega)
  have hin:inB (2*(t x.toNat).un.getD k 0) N=true:=inBt (by omega) (by omega)
  have hlt:decide ((2*(t x.toNat).un.getD k 0).toNat<N)=true:=decide_eq_true (by omega)
  rw [c1,c2] at h1
  by_cases h0:(k:Int)>0
  ·have hw1:IntKind.i64.wrap ((k:Int)-1)=((k-1:Nat):Int):=by rw [wrapI (by omega) (by omega)];omega
   have hk1:k-1<(t x.toNat).un.length:=by omega
   rw [decide_eq_true h0] at h1
   cases c3:decide ((t x.toNat).un.getD k 0≤(t x.toNat).un.getD (k-1) 0) with
   |true=>exact Tr.cutX (rpC_ok [(37,false),(41,false),(45,true),(54,true)]) 60 _ 0 (Nat.zero_le _) (s':=bS 113 6 false) _ (rp_xs N t x n k) (rp_xs' N t x n k) (by
     rw [Int.toNat_natCast,hw1,Int.toNat_natCast,inBN hk,decide_eq_true hk,c1,c2,decide_eq_true h0,inBN hk1,decide_eq_true hk1,c3];rfl)
   |false=>
   rw [c3] at h1
   cases c4:(t (2*(t x.toNat).un.getD k 0).toNat).used with
   |false=>exact Tr.cutX (rpC_ok [(37,false),(41,false),(45,true),(54,false),(63,false)]) 60 _ 0 (Nat.zero_le _) (s':=bS 113 6 false) _ (rp_xub N t x n k) (rp_xub' N t x n k) (by
     rw [Int.toNat_natCast,hw1,Int.toNat_natCast,hw2,inBN hk,decide_eq_true hk,c1,c2,decide_eq_true h0,inBN hk1,decide_eq_true hk1,c3,hin,hlt,show (t (2*(t x.toNat).un.getD k 0).toNat).1=false from c4];rfl)
   |true=>
    rw [c4] at h1
    have c5:abvB x (2*(t x.toNat).un.getD k 0) n=false:=by simpa using h1
    exact Tr.cutX (rpC_ok [(37,false),(41,false),(45,true),(54,false),(63,true),(71,false)]) 60 _ 0 (Nat.zero_le _) (s':=bS 113 6 false) _ (rp_xvb N t x n k) (rp_xvb' N t x n k) (by
     rw [Int.toNat_natCast,Int.toNat_natCast,hw1,Int.toNat_natCast,hw2,inBN hk,decide_eq_true hk,c1,c2,decide_eq_true h0,inBN hk1,decide_eq_true hk1,c3,hin,hlt,show (t (2*(t x.toNat).un.getD k 0).toNat).1=true from c4,hn0,hx,hlf,c5];rfl)
  ·rw [decide_eq_false h0] at h1
   cases c4:(t (2*(t x.toNat).un.getD k 0).toNat).used with
   |false=>exact Tr.cutX (rpC_ok [(37,false),(41,false),(45,false),(63,false)]) 60 _ 0 (Nat.zero_le _) (s':=bS 113 6 false) _ (rp_xua N t x n k) (rp_xua' N t x n k) (by
     rw [Int.toNat_natCast,hw2,inBN hk,decide_eq_true hk,c1,c2,decide_eq_false h0,hin,hlt,show (t (2*(t x.toNat).un.getD k 0).toNat).1=false from c4];rfl)
   |true=>
    rw [c4] at h1
    have c5:abvB x (2*(t x.toNat).un.getD k 0) n=false:=by simpa using h1
    exact Tr.cutX (rpC_ok [(37,false),(41,false),(45,false),(63,true),(71,false)]) 60 _ 0 (Nat.zero_le _) (s':=bS 113 6 false) _ (rp_xva N t x n k) (rp_xva' N t x n k) (by
     rw [Int.toNat_natCast,Int.toNat_natCast,hw2,inBN hk,decide_eq_true hk,c1,c2,decide_eq_false h0,hin,hlt,show (t (2*(t x.toNat).un.getD k 0).toNat).1=true from c4,hn0,hx,hlf,c5];rfl)
theorem rUpper_fn (hT:TOK N t) (hn:n∈sizes) (hN:N=2*n-1) (hx:nodeB x n=true):FnTr Tryz.prog 58 [.rol false 99 N (tng t),.int .i64 x,.int .i64 ((n:Nat):Int)] [] (.bool (upperQ N t x n)) []:=by
 obtain ⟨g1,g2⟩:=nodeB_lt hx
 have hxl:x.toNat<N:=by omega
 have hin:inB x N=true:=inBt g1 (by omega)
 unfold upperQ
 cases h1:((t x.toNat).name != 0) with
 |true=>exact call0 (rpC_ok _) 60 Tryz.func58 (rp_a N t x n) (by rw [hin,decide_eq_true hxl,h1];rfl) rfl
 |false=>
 cases h2:decide ((t x.toNat).sign=List.replicate 32 0) with
 |false=>exact call0 (rpC_ok _) 60 Tryz.func58 (rp_b N t x n) (by rw [hin,decide_eq_true hxl,h1,h2,decide_eq_true (hT.sign _ hxl)];rfl) rfl
 |true=>
  have key:=FnTr.scan (P:=Tryz.prog) (args:=[.rol false 99 N (tng t),.int .i64 x,.int .i64 ((n:Nat):Int)]) (h:=[]) (h':=[]) Tryz.func58 rfl 5 0 (fun k:Nat=>rpS N t x n ((k:Nat):Int)) (upQJ N t x n (t x.toNat).un) (t x.toNat).un.length
   (fun z s' g=>TrL.itemsX (rpC_ok [(17,false),(22,false)]) 60 5 _ 1 (by simp) (s1:=rpS N t x n ((0:Nat):Int)) _ (rp_head N t x n) (rp_head' N t x n) (by rw [hin,decide_eq_true hxl,h1,h2,decide_eq_true (hT.sign _ hxl)];rfl) (by decide) rfl g) (by decide) (by kernel_rfl)
   (fun k hk hb _=>ro_good hT hn hN hx hk hb) (fun i=>bS 113 6 false) (fun i=>[.bool false]) (fun k hk hb _=>⟨ro_bad hT hn hN hx hk hb,rfl,rfl⟩) (sE:=⟨slotsOf 113 [],[],true⟩) (sE':=bS 113 6 true) (vE:=[.bool true]) (xE:=.ret) (fun _=>?_) (fun _=>⟨?_,.inl rfl,rfl,rfl⟩)
  ·rw [oneOf_scan (g:=SV.bool) (vF:=fun _:Nat=>false) (vE:=true)] at key
   have hv:scanV (upQJ N t x n (t x.toNat).un) (t x.toNat).un.length (fun _=>false) true=(List.range (t x.toNat).un.length).all (upQJ N t x n (t x.toNat).un):=by
    unfold scanV;rw [←firstN_all];cases firstN _ _<;>rfl
   rw [hv] at key;exact key
  ·exact Tr.cutX (rpC_ok [(28,false)]) 60 _ 0 (Nat.le_refl _) (s':=⟨slotsOf 113 [],[],true⟩) _ (rp_end N t x n _) (rp_end' N t x n _) (by rw [nltN (Nat.le_refl _)];rfl)
  ·exact TrL.rest (rpC_ok []) 60 (by kernel_rfl) rfl
end
end Go.Proofs.YthlnlcijnoadcaaGreatDoor.Tr
end
