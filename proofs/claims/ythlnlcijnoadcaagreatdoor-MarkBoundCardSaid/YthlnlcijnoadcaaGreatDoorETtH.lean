/- This file holds the texts TtC, TtF, TtG, TtH, a section each. No conditions beyond those in the theorems. -/
import Derived.Test.YthlnlcijnoadcaaGreatDoorETtB
set_option linter.all false
section
namespace Go.Proofs.YthlnlcijnoadcaaGreatDoor.Tr
open Go Go.Sy
section
variable {N:Nat} {t:Nat→Nod} {x:Int}
end
end Go.Proofs.YthlnlcijnoadcaaGreatDoor.Tr
end
section
namespace Go.Proofs.YthlnlcijnoadcaaGreatDoor.Tr
open Go Go.Sy
noncomputable def rbC (l:List (Nat×Bool)):Ctr:=mk (P:=Tryz.prog) [rNodeE true,rAboveE] [] (uT l)
theorem rbC_ok (l:List (Nat×Bool)):CtrSound Tryz.prog (rbC l):=mk_sound _ InlOK.nil _ _
noncomputable def rbB:Code:=bodyOf Tryz.f43
noncomputable def rbS (x n f l i:Int):St:=⟨slotsOf 30 [(0,.int .i64 x),(1,.int .i64 n),(6,.int .i64 f),(7,.int .i64 l),(8,.int .i64 i)],[],true⟩
set_option maxRecDepth 100000 in
theorem rb_no (x n f l i:Int):resX (cutR [0,1,6,7,8] 0 (exec Tryz.prog (rbC [(11,true),(23,false)]) 60 0 (inner (inner (nthC 4 rbB))) (rbS x n f l i)))=some (.normal,(rbS x n f l (IntKind.i64.wrap (i+1))).t,[]):=by kernel_rfl
theorem below_two:(sizes.all fun n=>(List.range (2*n-1)).all fun x=>decide (0≤firstV (x:Nat))&&decide (firstV (x:Nat)≤lastV (x:Nat))&&decide (lastV (x:Nat)<n))=true:=by decide+kernel
theorem below_at {x:Int} {n:Nat} (h:nodeB x n=true):0≤firstV x∧firstV x≤lastV x∧lastV x<n:=by
 obtain ⟨m,hm,y,h1,rfl,hy⟩:=nodeB_iff h
 have:n=m:=by omega
 subst this
 have h:=List.all_eq_true.1 (List.all_eq_true.1 below_two n hm) y (List.mem_range.2 hy)
 simp only [Bool.and_eq_true,decide_eq_true_eq] at h
 omega
theorem abv_at {x:Int} {n i:Nat} (h:nodeB x n=true) (hi:i<n):abvB x (2*(i:Int)) n=(decide (firstV x≤(i:Int))&&decide ((i:Int)≤lastV x)):=by
 obtain ⟨m,hm,y,h1,rfl,hy⟩:=nodeB_iff h
 have:n=m:=by omega
 subst this
 have h:=List.all_eq_true.1 (List.all_eq_true.1 (List.all_eq_true.1 abv_all n hm) y (List.mem_range.2 hy)) i (List.mem_range.2 hi)
 exact eq_of_beq h
end Go.Proofs.YthlnlcijnoadcaaGreatDoor.Tr
end
section
namespace Go.Proofs.YthlnlcijnoadcaaGreatDoor.Tr
open Go Go.Sy
end Go.Proofs.YthlnlcijnoadcaaGreatDoor.Tr
end
section
namespace Go.Proofs.YthlnlcijnoadcaaGreatDoor.Tr
open Go Go.Sy
structure NodF (t:Nat→Nod) (n x:Nat):Prop where
 un:∀u∈(t x).un,0≤u∧u<n
 no:(t x).used=false→(t x).un=[]
 ev:x%2=0→(t x).un=[]
 rg:∀u∈(t x).un,firstV (x:Int)≤u∧u≤lastV (x:Int)
 nd:(t x).un.Nodup
section
variable {N n k:Nat} {t:Nat→Nod} {x:Nat}
theorem bef_rise {un:List Int} (h:∀j,j<un.length→bef un j<un.getD j 0):un.Pairwise (· < ·):=by
 have g:∀j,j<un.length→∀i,i<j→un.getD i 0<un.getD j 0:=by
  intro j
  induction j with
  |zero=>intro _ i hi;omega
  |succ j ih=>
   intro hj i hi
   have b:un.getD j 0<un.getD (j+1) 0:=h (j+1) hj
   by_cases e:i=j
   ·subst e;exact b
   ·have:=ih (by omega) i (by omega);omega
 rw [List.pairwise_iff_getElem]
 intro i j hi hj hij
 have:=g j hj i hij
 rwa [getD_get hi,getD_get hj] at this
theorem nodF_of (hn:n∈sizes) (hN:N=2*n-1) (hx:x<N) (g:goodJ t n x=true):NodF t n x:=by
 have nil:(t x).un=[]→NodF t n x:=fun e=>⟨by rw [e];exact fun _ q=>by simp at q,fun _=>e,fun _=>e,by rw [e];exact fun _ q=>by simp at q,by rw [e];exact List.nodup_nil⟩
 unfold goodJ at g
 cases hu:(t x).used with
 |false=>
  rw [hu] at g
  refine nil ?_
  unfold blankB sameB at g
  simp only [Bool.not_false,cond_true,Bool.and_eq_true,decide_eq_true_eq] at g
  exact g.2
 |true=>
  rw [hu] at g
  cases hp:(x%2==0) with
  |true=>
   rw [hp] at g
   refine nil ?_
   unfold lfB at g
   simp only [Bool.not_true,cond_false,cond_true,Bool.and_eq_true,beq_iff_eq] at g
   have:=g.1.2
   exact List.length_eq_zero_iff.1 (by omega)
  |false=>
   rw [hp] at g
   have g':upperB t (x:Int) n=true:=g
   have hun:=(upper_un hn (hN▸hx) g').1
   unfold upperB at g'
   simp only [Bool.and_eq_true,Int.toNat_natCast] at g'
   have r:∀j,j<(t x).un.length→bef (t x).un j<(t x).un.getD j 0∧firstV (x:Int)≤(t x).un.getD j 0∧(t x).un.getD j 0≤lastV (x:Int):=fun j hj=>upJ_at (List.all_eq_true.1 g'.2 j (List.mem_range.2 hj))
   refine ⟨hun,fun q=>(by rw [hu] at q;cases q),fun q=>(by rw [beq_eq_false_iff_ne] at hp;omega),fun u hm=>?_,?_⟩
   ·obtain ⟨j,hj,rfl⟩:=List.getElem_of_mem hm
    have:=r j hj
    rw [getD_get hj] at this
    exact this.2
   ·exact (bef_rise fun j hj=>(r j hj).1).imp fun h=>by omega
def lvlB (n x:Nat):Bool:=match lvN 7 x with
 |0=>decide (x%2=0)&&firstV ((x:Nat):Int)==((x/2:Nat):Int)&&lastV ((x:Nat):Int)==((x/2:Nat):Int)
 |k+1=>decide (x%2=1)&&firstV ((x-2^k:Nat):Int)==firstV ((x:Nat):Int)&&lastV ((x-2^k:Nat):Int)+1==firstV ((x+2^k:Nat):Int)&&lastV ((x+2^k:Nat):Int)==lastV ((x:Nat):Int)
theorem lvl_all:(sizes.all fun n=>(List.range (2*n-1)).all fun x=>lvlB n x)=true:=by decide+kernel
theorem lvl_zero (hn:n∈sizes) (hx:x<2*n-1) (hk:lvN 7 x=0):x%2=0∧firstV (x:Int)=((x/2:Nat):Int)∧lastV (x:Int)=((x/2:Nat):Int):=by
 have h:=List.all_eq_true.1 (List.all_eq_true.1 lvl_all n hn) x (List.mem_range.2 hx)
 unfold lvlB at h
 rw [hk] at h
 simp only [Bool.and_eq_true,beq_iff_eq,decide_eq_true_eq] at h
 exact ⟨h.1.1,h.1.2,h.2⟩
theorem lvl_succ (hn:n∈sizes) (hx:x<2*n-1) (hk:lvN 7 x=k+1):x%2=1∧firstV ((x-2^k:Nat):Int)=firstV (x:Int)∧lastV ((x-2^k:Nat):Int)+1=firstV ((x+2^k:Nat):Int)∧lastV ((x+2^k:Nat):Int)=lastV (x:Int):=by
 have h:=List.all_eq_true.1 (List.all_eq_true.1 lvl_all n hn) x (List.mem_range.2 hx)
 unfold lvlB at h
 rw [hk] at h
 simp only [Bool.and_eq_true,beq_iff_eq,decide_eq_true_eq] at h
 exact ⟨h.1.1.1,h.1.1.2,h.1.2,h.2⟩
theorem count_one {a:Int}:∀{l:List Int},l.Nodup→a∈l→l.count a=1
 | [],_,h=>by simp at h
 |b::l,hn,h=>by
  rw [List.nodup_cons] at hn
  rw [List.count_cons]
  rcases List.mem_cons.1 h with rfl|h
  ·rw [List.count_eq_zero.2 hn.1];simp
  ·rw [count_one hn.2 h,if_neg (by rw [beq_iff_eq];rintro rfl;exact hn.1 h)]
theorem node_mk {z:Nat} (hn:n∈sizes) (hz:z<2*n-1):nodeB (z:Int) n=true:=List.any_eq_true.2 ⟨n,hn,by simp;omega⟩
theorem inQ_mem {i:Int} {l:List Int}:inQ i l=true↔i∈l:=by
 rw [inQ_has,hasB,List.any_eq_true]
 constructor
 ·rintro ⟨u,hu,e⟩;rw [beq_iff_eq] at e;rw [e];exact hu
 ·intro h;exact ⟨i,h,by simp⟩
end
end Go.Proofs.YthlnlcijnoadcaaGreatDoor.Tr
end
