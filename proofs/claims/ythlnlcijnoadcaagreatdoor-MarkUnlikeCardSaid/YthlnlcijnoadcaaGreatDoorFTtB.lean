/- This file proves the contracts of tree's Resolution, of the reference's and of burrownum's Ints. Conditions: trees of 71 nodes at most. -/
import Derived.Test.YthlnlcijnoadcaaGreatDoorFTtA
set_option linter.all false
namespace Go.Proofs.YthlnlcijnoadcaaGreatDoor.Tr
open Go Go.Sy
noncomputable def rnC (b:Bool) (l:List (Nat×Bool)):Ctr:=mk (P:=Tryz.prog) [checkE b,resE 8 (resolve_fn 8)] [] (uT l)
theorem rnC_ok (b:Bool) (l:List (Nat×Bool)):CtrSound Tryz.prog (rnC b l):=mk_sound _ InlOK.nil _ _
noncomputable def noL (l:List (Nat×Bool)):Ctr:=mk (P:=Tryz.prog) [] [] (uT l)
theorem noL_ok (l:List (Nat×Bool)):CtrSound Tryz.prog (noL l):=mk_sound _ InlOK.nil _ _
section
variable {N n k:Nat} {t:Nat→Nod} {x:Nat}
theorem check_parts (hT:TOK N t) (h:checkB N t=true):∃n∈sizes,leavesV N=(n:Int)∧N=2*n-1∧∀x,x<N→goodJ t n x=true:=by
 unfold checkB at h
 simp only [Bool.and_eq_true,Bool.not_eq_true'] at h
 obtain ⟨n,hn,h1,h2⟩:=leaves_sizes hT.le h.1
 refine ⟨n,hn,h1,h2,fun x hx=>?_⟩
 have:=List.all_eq_true.1 h.2.1 x (List.mem_range.2 hx)
 rwa [h1,Int.toNat_natCast] at this
theorem upJ_at {x:Int} {un:List Int} {j:Nat} (h:upJ t x n un j=true):bef un j<un.getD j 0∧firstV x≤un.getD j 0∧un.getD j 0≤lastV x:=by
 unfold upJ at h
 simp only [Bool.and_eq_true,Bool.not_eq_true',decide_eq_false_iff_not] at h
 omega
theorem upper_un {x:Nat} (hn:n∈sizes) (hx:x<2*n-1) (h:upperB t x n=true):(∀u∈(t x).un,0≤u∧u<n)∧(t x).un.length≤n:=by
 unfold upperB at h
 simp only [Bool.and_eq_true,Int.toNat_natCast] at h
 obtain ⟨_,h⟩:=h
 have q:nodeB (x:Int) n=true:=List.any_eq_true.2 ⟨n,hn,by simp;omega⟩
 obtain ⟨b1,b2⟩:=below_ok q
 have r:∀j,j<(t x).un.length→bef (t x).un j<(t x).un.getD j 0∧0≤(t x).un.getD j 0∧(t x).un.getD j 0<n:=fun j hj=>by
  have:=upJ_at (List.all_eq_true.1 h j (List.mem_range.2 hj))
  omega
 refine ⟨fun u hu=>?_,?_⟩
 ·obtain ⟨j,hj,rfl⟩:=List.getElem_of_mem hu
  have:=r j hj
  rw [getD_get hj] at this
  exact this.2
 ·have g:∀j,j<(t x).un.length→(j:Int)≤(t x).un.getD j 0:=by
   intro j
   induction j with
   |zero=>intro hj;exact (r 0 hj).2.1
   |succ j ih=>
    intro hj
    have a:=ih (by omega)
    have b:(t x).un.getD j 0<(t x).un.getD (j+1) 0:=(r (j+1) hj).1
    omega
  cases hl:(t x).un.length with
  |zero=>omega
  |succ k=>
   have a:=g k (by omega)
   have b:=r k (by omega)
   omega
theorem check_un (hT:TOK N t) (h:checkB N t=true):unB N t=true∧treeN N=true:=by
 obtain ⟨n,hn,h1,hN,hg⟩:=check_parts hT h
 have hs:=sizes_le hn
 refine ⟨List.all_eq_true.2 fun x hx=>?_,List.any_eq_true.2 ⟨n,hn,decide_eq_true hN⟩⟩
 have hx:=List.mem_range.1 hx
 have g:=hg x hx
 have key:(∀u∈(t x).un,0≤u∧u<n)∧(t x).un.length≤n:=by
  unfold goodJ at g
  cases hu:(t x).used with
  |false=>
   rw [hu] at g
   have:(t x).un=[]:=by
    unfold blankB sameB at g
    simp only [Bool.not_false,cond_true,Bool.and_eq_true,decide_eq_true_eq] at g
    exact g.2
   rw [this];exact ⟨fun _ q=>by simp at q,Nat.zero_le _⟩
  |true=>
   rw [hu] at g
   cases hp:(x%2==0) with
   |true=>
    rw [hp] at g
    have:(t x).un=[]:=by
     unfold lfB at g
     simp only [Bool.not_true,cond_false,cond_true,Bool.and_eq_true,beq_iff_eq] at g
     have:=g.1.2
     exact List.length_eq_zero_iff.1 (by omega)
    rw [this];exact ⟨fun _ q=>by simp at q,Nat.zero_le _⟩
   |false=>
    rw [hp] at g
    exact upper_un hn (hN▸hx) g
 simp only [Bool.and_eq_true,decide_eq_true_eq,List.all_eq_true]
 refine ⟨by omega,fun u hu=>?_⟩
 have:=key.1 u hu
 omega
end
end Go.Proofs.YthlnlcijnoadcaaGreatDoor.Tr
