/- This file holds the texts TsJ, TsK, TsL, a section each. No conditions beyond those in the theorems. -/
import Derived.Test.YthlnlcijnoadcaaGreatDoorFTsI
set_option linter.all false
section
namespace Go.Proofs.YthlnlcijnoadcaaGreatDoor.Tr
open Go Go.Sy
theorem abv_all:(sizes.all fun n=>(List.range (2*n-1)).all fun x=>(List.range n).all fun i=>abvB ((x:Nat):Int) (2*((i:Nat):Int)) n==(decide (firstV ((x:Nat):Int)≤((i:Nat):Int))&&decide (((i:Nat):Int)≤lastV ((x:Nat):Int))))=true:=by decide+kernel
theorem on_all:(sizes.all fun n=>(List.range (n-1)).all fun x=>(List.range n).all fun i=>((List.range (lgN n)).any fun j=>upV n (2*((i:Nat):Int)) j==((2*x+1:Nat):Int))==abvB ((2*x+1:Nat):Int) (2*((i:Nat):Int)) n)=true:=by decide+kernel
theorem btw_all:(sizes.all fun n=>(List.range n).all fun i=>(List.range (lgN n)).all fun j=>(List.range (n-1)).all fun y=>(((2*y+1:Nat):Int) != upV n (2*((i:Nat):Int)) j&&(abvB (upV n (2*((i:Nat):Int)) j) ((2*y+1:Nat):Int) n&&abvB ((2*y+1:Nat):Int) (2*((i:Nat):Int)) n))==((List.range j).any fun k=>upV n (2*((i:Nat):Int)) k==((2*y+1:Nat):Int)))=true:=by decide+kernel
def nmC (t:Nat→Nod) (k:Int):Nat→Nat
 |0=>0
 |i+1=>nmC t k i+(bif (t i).used&&(i%2==0)&&((t i).name==k) then 1 else 0)
theorem nmC_le (t:Nat→Nod) (k:Int):∀i,nmC t k i≤i
 |0=>Nat.le_refl _
 |i+1=>by
  have:=nmC_le t k i
  unfold nmC
  cases (t i).used&&(i%2==0)&&((t i).name==k)<;>simp<;>omega
theorem nmL_get (t:Nat→Nod) (k:Int):∀i,i≤1000→getI (nmL t i) k=(nmC t k i:Int)
 |0,_=>rfl
 |i+1,h=>by
  have ih:=fun k=>nmL_get t k i (by omega)
  unfold nmL nmC
  cases hu:(t i).used&&(i%2==0) with
  |false=>simp [ih]
  |true=>
   simp only [cond_true,Bool.true_and]
   rw [getI_set]
   cases hk:(k==(t i).name) with
   |true=>
    have hk':=eq_of_beq hk
    subst hk'
    have:=nmC_le t (t i).name i
    rw [beq_self_eq_true,cond_true,cond_true,ih,wrapS (by omega)]
   |false=>
    have:((t i).name==k)=false:=by
     cases h2:((t i).name==k) with
     |true=>rw [eq_of_beq h2,beq_self_eq_true] at hk;exact hk
     |false=>rfl
    rw [this,cond_false,cond_false,ih]
    rfl
theorem nmC_zero (t:Nat→Nod) (k:Int):∀i,nmC t k i=0↔∀j,2*j<i→((t (2*j)).used&&((t (2*j)).name==k))=false
 |0=>⟨fun _ j hj=>absurd hj (by omega),fun _=>rfl⟩
 |i+1=>by
  have ih:=nmC_zero t k i
  unfold nmC
  constructor
  ·intro h j hj
   by_cases hij:2*j=i
   ·subst hij
    have h2:(bif (t (2*j)).used&&(2*j%2==0)&&((t (2*j)).name==k) then 1 else 0)=0:=by omega
    rw [show (2*j%2==0)=true by rw [beq_iff_eq];omega,Bool.and_true] at h2
    cases hq:((t (2*j)).used&&((t (2*j)).name==k)) with
    |false=>rfl
    |true=>rw [hq] at h2;cases h2
   ·exact ih.1 (by omega) j (by omega)
  ·intro h
   have h1:=ih.2 fun j hj=>h j (by omega)
   rw [h1]
   cases hp:(i%2==0) with
   |false=>simp
   |true=>
    have hi:i=2*(i/2):=by have:=eq_of_beq hp;omega
    have:=h (i/2) (by omega)
    rw [←hi] at this
    rw [Bool.and_true,this]
    rfl
theorem first_name {t:Nat→Nod} {x:Nat} (hx:x≤100) (hu:(t x).used=true) (hp:(x%2==0)=true):(getI (nmL t (x+1)) (t x).name==1)=(List.range (x/2)).all (dupJ t x):=by
 rw [nmL_get t _ (x+1) (by omega)]
 have h1:nmC t (t x).name (x+1)=nmC t (t x).name x+1:=by
  show nmC t (t x).name x+_=_
  rw [hu,hp,beq_self_eq_true]
  rfl
 rw [h1]
 have hz:=nmC_zero t (t x).name x
 cases hq:(List.range (x/2)).all (dupJ t x) with
 |true=>
  have:nmC t (t x).name x=0:=hz.2 fun j hj=>by
   have:=List.all_eq_true.1 hq j (List.mem_range.2 (by have:=eq_of_beq hp;omega))
   unfold dupJ at this
   rw [Bool.not_eq_true'] at this
   exact this
  rw [this]
  rfl
 |false=>
  rw [beq_eq_false_iff_ne]
  intro h
  have h0:nmC t (t x).name x=0:=by omega
  have:=hz.1 h0
  rw [←Bool.not_eq_true,List.all_eq_true] at hq
  refine hq fun j hj=>?_
  have hj:=List.mem_range.1 hj
  unfold dupJ
  rw [this j (by omega)]
  rfl
end Go.Proofs.YthlnlcijnoadcaaGreatDoor.Tr
end
section
namespace Go.Proofs.YthlnlcijnoadcaaGreatDoor.Tr
open Go Go.Sy
theorem inQ_has (i:Int) (l:List Int):inQ i l=hasB l i:=by
 have h1:inQ i l=!((List.range l.length).all fun k=>!(l.getD k 0==i)):=by
  unfold inQ scanV;rw [←firstN_all];cases firstN _ _<;>rfl
 rw [h1,Bool.eq_iff_iff,Bool.not_eq_true', ←Bool.not_eq_true,List.all_eq_true]
 unfold hasB
 rw [List.any_eq_true]
 constructor
 ·intro h
  refine Classical.byContradiction fun g=>h fun k hk=>?_
  have hk:=List.mem_range.1 hk
  rw [Bool.not_eq_true']
  cases q:(l.getD k 0==i) with
  |false=>rfl
  |true=>
   refine absurd ⟨l[k],List.getElem_mem hk,?_⟩ g
   have:=eq_of_beq q
   rw [List.getD,List.getElem?_eq_getElem hk] at this
   rw [beq_iff_eq]
   exact this.symm
 ·rintro ⟨v,hv,q⟩ h
  obtain ⟨k,hk,rfl⟩:=List.mem_iff_getElem.1 hv
  have:=h k (List.mem_range.2 hk)
  rw [List.getD,List.getElem?_eq_getElem hk,Option.getD_some, ←eq_of_beq q,beq_self_eq_true] at this
  cases this
theorem up_inj:(sizes.all fun n=>(List.range n).all fun i=>(List.range (lgN n)).all fun j=>(decide ((upV n (2*((i:Nat):Int)) j).toNat%2=1)&&decide ((upV n (2*((i:Nat):Int)) j).toNat<2*n-1))&&(List.range (lgN n)).all fun k=>(upV n (2*((i:Nat):Int)) j==upV n (2*((i:Nat):Int)) k)==decide (j=k))=true:=by decide+kernel
section
variable {N:Nat} {t:Nat→Nod} {n i j:Nat}
def stepB (t:Nat→Nod) (n i k:Nat):Bool:=!((t (upV n (2*(i:Int)) k).toNat).used&&!hasB (t (upV n (2*(i:Int)) k).toNat).un i)
theorem btw_path (hn:n∈sizes) (hi:i<n) (hj:j<lgN n):btwB t (upV n (2*(i:Int)) j) i n=(List.range j).all (stepB t n i):=by
 have tab:=List.all_eq_true.1 (List.all_eq_true.1 up_inj n hn) i (List.mem_range.2 hi)
 have inj:∀a b,a<lgN n→b<lgN n→(upV n (2*(i:Int)) a==upV n (2*(i:Int)) b)=decide (a=b):=fun a b ha hb=>
  eq_of_beq (List.all_eq_true.1 (Bool.and_eq_true_iff.1 (List.all_eq_true.1 tab a (List.mem_range.2 ha))).2 b (List.mem_range.2 hb))
 have ok:∀k,k<lgN n→okJ t (upV n (2*(i:Int)) j) i n k=(!decide (k=j)&&stepB t n i k):=fun k hk=>by
  unfold okJ stepB
  rw [inj k j hk hj]
 unfold btwB scanV
 cases hq:firstN (okJ t (upV n (2*(i:Int)) j) i n) (lgN n) with
 |none=>
  have:=firstN_none hq j hj
  rw [ok j hj,decide_eq_true rfl] at this
  cases this
 |some k=>
  obtain ⟨k1,k2,k3⟩:=find_range hq
  show (upV n (2*(i:Int)) k==upV n (2*(i:Int)) j)=_
  rw [inj k j k1 hj]
  have hkj:k≤j:=by
   rcases Nat.lt_or_ge j k with h|h
   ·have:=k3 j h
    rw [ok j hj,decide_eq_true rfl] at this
    cases this
   ·exact h
  by_cases h:k=j
  ·subst h
   rw [decide_eq_true rfl]
   refine (List.all_eq_true.2 fun a ha=>?_).symm
   have ha:=List.mem_range.1 ha
   have:=k3 a ha
   rw [ok a (by omega)] at this
   exact (Bool.and_eq_true_iff.1 this).2
  ·rw [decide_eq_false h]
   rw [ok k k1,decide_eq_false h,Bool.not_false,Bool.true_and] at k2
   cases hq2:(List.range j).all (stepB t n i) with
   |false=>rfl
   |true=>
    have:=List.all_eq_true.1 hq2 k (List.mem_range.2 (by omega))
    rw [this] at k2
    cases k2
theorem inner_path (hn:n∈sizes) (hi:i<n) (hj:j<lgN n) (hN:N=2*n-1):(List.range (N/2)).all (inJ t (upV n (2*(i:Int)) j) n i)=(List.range j).all (stepB t n i):=by
 have tab:=List.all_eq_true.1 (List.all_eq_true.1 up_inj n hn) i (List.mem_range.2 hi)
 have odd:∀k,k<lgN n→(upV n (2*(i:Int)) k).toNat%2=1∧(upV n (2*(i:Int)) k).toNat<2*n-1:=fun k hk=>by
  have:=Bool.and_eq_true_iff.1 (Bool.and_eq_true_iff.1 (List.all_eq_true.1 tab k (List.mem_range.2 hk))).1
  exact ⟨of_decide_eq_true this.1,of_decide_eq_true this.2⟩
 have pos:∀k,k<lgN n→0≤upV n (2*(i:Int)) k:=fun k hk=>by
  have:=((up_ok hn hi).1 k hk).2
  rw [show ((2*i:Nat):Int)=2*(i:Int) by omega] at this
  exact this
 have tb:=List.all_eq_true.1 (List.all_eq_true.1 (List.all_eq_true.1 btw_all n hn) i (List.mem_range.2 hi)) j (List.mem_range.2 hj)
 have hs:=sizes_le hn
 have one:∀y,y<n-1→inJ t (upV n (2*(i:Int)) j) n i y=!(((List.range j).any fun k=>upV n (2*(i:Int)) k==((2*y+1:Nat):Int))&&((t (2*y+1)).used&&!hasB (t (2*y+1)).un i)):=fun y hy=>by
  have:=eq_of_beq (List.all_eq_true.1 tb y (List.mem_range.2 hy))
  rw [←this]
  unfold inJ
  rw [inQ_has]
  cases (((2*y+1:Nat):Int) != upV n (2*(i:Int)) j)<;>cases (t (2*y+1)).used<;>cases abvB (upV n (2*(i:Int)) j) ((2*y+1:Nat):Int) n<;>cases abvB ((2*y+1:Nat):Int) (2*(i:Int)) n<;>rfl
 rw [Bool.eq_iff_iff,List.all_eq_true,List.all_eq_true]
 constructor
 ·intro h k hk
  have hk:=List.mem_range.1 hk
  obtain ⟨o1,o2⟩:=odd k (by omega)
  have p:=pos k (by omega)
  have hy:2*((upV n (2*(i:Int)) k).toNat/2)+1=(upV n (2*(i:Int)) k).toNat:=by omega
  have:=h ((upV n (2*(i:Int)) k).toNat/2) (List.mem_range.2 (by omega))
  rw [one _ (by omega),hy] at this
  unfold stepB
  have ha:((List.range j).any fun k'=>upV n (2*(i:Int)) k'==(((upV n (2*(i:Int)) k).toNat:Nat):Int))=true:=List.any_eq_true.2 ⟨k,List.mem_range.2 hk,by rw [beq_iff_eq];omega⟩
  rw [ha,Bool.true_and] at this
  exact this
 ·intro h y hy
  have hy:=List.mem_range.1 hy
  rw [one y (by omega)]
  cases ha:((List.range j).any fun k=>upV n (2*(i:Int)) k==((2*y+1:Nat):Int)) with
  |false=>rfl
  |true=>
   obtain ⟨k,hk,q⟩:=List.any_eq_true.1 ha
   have:=h k hk
   unfold stepB at this
   rw [eq_of_beq q,Int.toNat_natCast] at this
   rw [Bool.true_and]
   exact this
end
end Go.Proofs.YthlnlcijnoadcaaGreatDoor.Tr
end
section
namespace Go.Proofs.YthlnlcijnoadcaaGreatDoor.Tr
open Go Go.Sy
section
variable {N:Nat} {t:Nat→Nod} {n x k:Nat}
theorem at_eq (hn:n∈sizes) (hN:N=2*n-1) (hx:x<N) (ho:x%2=1) (un:List Int) (hk:k<un.length):upJ t x n un k=upQJ N t x n un k∨(un.getD k 0≤bef un k):=by
 have hs:=sizes_le hn
 have hnd:nodeB ((x:Nat):Int) n=true:=by
  rw [node_of hn,Bool.and_eq_true,decide_eq_true_eq,decide_eq_true_eq];omega
 obtain ⟨b1,b2⟩:=below_ok hnd
 by_cases hb:un.getD k 0≤bef un k
 ·exact .inr hb
 ·refine .inl ?_
  have h3:(decide ((k:Int)>0)&&decide (un.getD k 0≤un.getD (k-1) 0))=false:=by
   cases k with
   |zero=>rfl
   |succ k=>
    rw [show k+1-1=k by omega,show decide (un.getD (k+1) 0≤un.getD k 0)=false from decide_eq_false hb,Bool.and_false]
  unfold upJ upQJ outJ
  rw [decide_eq_false hb,h3]
  by_cases h0:un.getD k 0<0
  ·rw [decide_eq_true h0,decide_eq_true (show un.getD k 0<firstV x by omega)];rfl
  ·by_cases h1:un.getD k 0≥(n:Int)
   ·rw [decide_eq_true h1,decide_eq_false h0,decide_eq_true (show un.getD k 0>lastV x by omega)]
    simp
   ·rw [decide_eq_false h0,decide_eq_false h1]
    obtain ⟨i,hi⟩:=Int.eq_ofNat_of_zero_le (show 0≤un.getD k 0 by omega)
    rw [hi]
    have hin:i<n:=by omega
    rw [Int.toNat_natCast]
    have hab:=eq_of_beq (List.all_eq_true.1 (List.all_eq_true.1 (List.all_eq_true.1 abv_all n hn) x (List.mem_range.2 (by omega))) i (List.mem_range.2 hin))
    have hon:=eq_of_beq (List.all_eq_true.1 (List.all_eq_true.1 (List.all_eq_true.1 on_all n hn) (x/2) (List.mem_range.2 (by omega))) i (List.mem_range.2 hin))
    rw [show 2*(x/2)+1=x by omega] at hon
    have hfl:(!decide (((i:Nat):Int)<firstV x)&&!decide (((i:Nat):Int)>lastV x))=abvB x (2*(i:Int)) n:=by
     rw [hab,Bool.eq_iff_iff]
     simp only [Bool.and_eq_true,Bool.not_eq_true',decide_eq_false_iff_not,decide_eq_true_eq]
     omega
    cases ha:abvB ((x:Nat):Int) (2*(i:Int)) n with
    |false=>
     rw [ha] at hfl
     simp only [Bool.not_false,Bool.true_and,Bool.and_false,Bool.false_and]
     rw [hfl]
     rfl
    |true=>
     rw [ha] at hfl hon
     obtain ⟨j,hj,hq⟩:=List.any_eq_true.1 hon
     have hj:=List.mem_range.1 hj
     have hq:=eq_of_beq hq
     rw [←hq,btw_path hn hin hj,inner_path hn hin hj hN,hq]
     simp only [Bool.not_false,Bool.true_and,Bool.and_true]
     rw [hfl,Bool.true_and]
theorem up_sorted {un:List Int} (h:∀k,k<un.length→bef un k<un.getD k 0):sortedB un=true:=by
 unfold sortedB
 rw [List.all_eq_true]
 intro j hj
 have hj:=List.mem_range.1 hj
 have:=h (un.length-1-j) (by omega)
 rw [Bool.not_eq_true',decide_eq_false_iff_not]
 cases hq:un.length-1-j with
 |zero=>omega
 |succ a=>
  rw [hq] at this
  have:un.getD a 0<un.getD (a+1) 0:=this
  rw [show a+1-1=a by omega]
  omega
theorem upJ_bef {x:Int} {un:List Int} (h:upJ t x n un k=true):bef un k<un.getD k 0:=by
 unfold upJ at h
 simp only [Bool.and_eq_true,Bool.not_eq_true',decide_eq_false_iff_not] at h
 have:=h.1.1.1.1
 omega
theorem upQ_bef {un:List Int} {x:Int} (h:upQJ N t x n un k=true):bef un k<un.getD k 0:=by
 unfold upQJ outJ at h
 simp only [Bool.and_eq_true,Bool.not_eq_true',decide_eq_false_iff_not] at h
 obtain ⟨⟨h1,_,h3,_⟩,_⟩:=h
 cases k with
 |zero=>show (-1:Int)<_;omega
 |succ k=>
  show un.getD k 0<_
  rw [decide_eq_true (show ((k+1:Nat):Int)>0 by omega),Bool.true_and,decide_eq_false_iff_not,show k+1-1=k by omega] at h3
  omega
theorem upper_eq (hn:n∈sizes) (hN:N=2*n-1) (hx:x<N) (ho:x%2=1):upperB t x n=upperQ N t x n:=by
 unfold upperB upperQ
 rw [Int.toNat_natCast]
 generalize (t x).un=un
 have key:(sortedB un&&(List.range un.length).all (upJ t x n un))=(List.range un.length).all (upQJ N t x n un):=by
  rw [Bool.eq_iff_iff,Bool.and_eq_true,List.all_eq_true,List.all_eq_true]
  constructor
  ·rintro ⟨_,h⟩ k hk
   have hu:=h k hk
   rcases at_eq (t:=t) hn hN hx ho un (List.mem_range.1 hk) with q|q
   ·rw [←q];exact hu
   ·have:=upJ_bef hu;omega
  ·intro h
   refine ⟨up_sorted fun k hk=>upQ_bef (h k (List.mem_range.2 hk)),fun k hk=>?_⟩
   have hu:=h k hk
   rcases at_eq (t:=t) hn hN hx ho un (List.mem_range.1 hk) with q|q
   ·rw [q];exact hu
   ·have:=upQ_bef hu;omega
 rw [←key]
 cases (!((t x).name != 0))<;>cases decide ((t x).sign=List.replicate 32 0)<;>rfl
theorem good_eq (hn:n∈sizes) (hN:N=2*n-1) (hx:x<N):goodJ t n x=goodQJ N t n x:=by
 have hs:=sizes_le hn
 unfold goodJ goodQJ
 cases hu:(t x).used with
 |false=>
  show blankB (t x)=nsB (t x) zeroN
  rfl
 |true=>
  show (bif x%2==0 then lfB true (t x).name (t x).un&&(getI (nmL t (x+1)) (t x).name==1) else upperB t x n)=(bif x%2==1 then upperQ N t x n else lfN (t x)&&(List.range (x/2)).all (dupJ t x))
  cases hp:(x%2==1) with
  |true=>
   rw [odN hp,cond_false,cond_true]
   exact upper_eq hn hN hx (eq_of_beq hp)
  |false=>
   rw [evN hp,cond_false,cond_true,first_name (by omega) hu (evN hp)]
   unfold lfN
   rw [hu]
theorem check_good (hle:N≤71):checkB N t=goodQ N t:=by
 unfold checkB goodQ
 cases h0:(leavesV N==0) with
 |true=>rfl
 |false=>
  obtain ⟨n,hn,hv,hN⟩:=leaves_sizes hle h0
  rw [hv,Int.toNat_natCast]
  have:(List.range N).all (goodJ t n)=(List.range N).all (goodQJ N t n):=by
   rw [Bool.eq_iff_iff,List.all_eq_true,List.all_eq_true]
   constructor
   ·intro h x hx;rw [←good_eq hn hN (List.mem_range.1 hx)];exact h x hx
   ·intro h x hx;rw [good_eq hn hN (List.mem_range.1 hx)];exact h x hx
  rw [this,Bool.and_comm ((List.range N).all _)]
end
end Go.Proofs.YthlnlcijnoadcaaGreatDoor.Tr
end
