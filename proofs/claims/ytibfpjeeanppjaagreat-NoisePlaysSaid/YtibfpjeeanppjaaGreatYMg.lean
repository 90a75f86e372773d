/- This file proves contracts of the reference's numbers: prime, atLeast, minus. Conditions: parts within 16 bits. -/
import Derived.Test.YtibfpjeeanppjaaGreatYMf
set_option linter.all false
set_option maxRecDepth 100000
namespace Go.Proofs.YtibfpjeeanppjaaGreat.Re
open Go Go.Sy Fe
def sB (f:Nat→Int):Nat→Int
 |0=>0
 |n+1=>sB f n+f n*65536^n
theorem dS {f g:Nat→Int}:∀(n:Nat),(∀i,i<n→f i=g i)→sB f n=sB g n
 |0,_=>rfl
 |n+1,h=>by rw [sB,sB,dS n fun i hi=>h i (by omega),h n (by omega)]
theorem Aj (f g:Nat→Int):∀n:Nat,sB (fun i=>f i+g i) n=sB f n+sB g n
 |0=>rfl
 |n+1=>by rw [sB,sB,sB,Aj f g n,Int.add_mul];omega
theorem EV (c:Int) (f:Nat→Int):∀n:Nat,sB (fun i=>c*f i) n=c*sB f n
 |0=>by simp [sB]
 |n+1=>by rw [sB,sB,EV c f n,Int.mul_add,Int.mul_assoc]
theorem mB {f:Nat→Int}:∀(n:Nat),(∀i,i<n→f i=0)→sB f n=0
 |0,_=>rfl
 |n+1,h=>by rw [sB,mB n fun i hi=>h i (by omega),h n (by omega)];simp
theorem fe (f:Nat→Int) (a:Nat):∀n:Nat,sB f (a+n)=sB f a+65536^a*sB (fun i=>f (a+i)) n
 |0=>by simp [sB]
 |n+1=>by
  rw [←Nat.add_assoc,sB,sB,fe f a n,Int.mul_add,Int.pow_add]
  have:f (a+n)*(65536^a*65536^n)=65536^a*(f (a+n)*65536^n):=by rw [←Int.mul_assoc,Int.mul_comm (f (a+n)),Int.mul_assoc]
  omega
theorem gF {f:Nat→Int}:∀(n:Nat),(∀i,i<n→0≤f i∧f i<65536)→0≤sB f n∧sB f n<65536^n
 |0,_=>by simp [sB]
 |n+1,h=>by
  have ih:=gF n fun i hi=>h i (by omega)
  have hn:=h n (by omega)
  have hp:(0:Int)<65536^n:=Int.pow_pos (by omega)
  rw [sB,Int.pow_succ]
  have h1:0≤f n*65536^n:=Int.mul_nonneg hn.1 (by omega)
  have h2:f n*65536^n≤65535*65536^n:=Int.mul_le_mul_of_nonneg_right (by omega) (by omega)
  omega
theorem rJ {f:Nat→Int}:∀(n i:Nat),i<n→(∀i,i<n→0≤f i∧f i<65536)→f i=sB f n/65536^i%65536
 |0,i,h,_=>by omega
 |n+1,i,h,hf=>by
  have hp:(0:Int)<65536^n:=Int.pow_pos (by omega)
  have hr:=gF n fun i hi=>hf i (by omega)
  rw [sB]
  by_cases hi:i=n
  ·subst hi
   rw [Int.add_mul_ediv_right _ _ (by omega),Int.ediv_eq_zero_of_lt hr.1 hr.2,Int.zero_add]
   have:=hf i (by omega)
   omega
  ·rw [rJ n i (by omega) fun i hi=>hf i (by omega)]
   have hq:(65536:Int)^n=65536^i*(65536*65536^(n-i-1)):=by
    rw [←Int.pow_succ', ←Int.pow_add];congr 1;omega
   have GG:(65536:Int)^i≠0:=by have:(0:Int)<65536^i:=Int.pow_pos (by omega);omega
   rw [hq,show f n*(65536^i*(65536*65536^(n-i-1)))=65536^i*(f n*(65536*65536^(n-i-1))) by rw [←Int.mul_assoc,Int.mul_comm (f n),Int.mul_assoc],
    Int.add_mul_ediv_left _ _ GG,show f n*(65536*65536^(n-i-1))=65536*(f n*65536^(n-i-1)) by rw [←Int.mul_assoc,Int.mul_comm (f n),Int.mul_assoc],Int.add_mul_emod_self_left]
theorem VC {f g:Nat→Int} {n m:Nat} (hm:m<n) (hf:∀i,i<n→0≤f i∧f i<65536) (hg:∀i,i<n→0≤g i∧g i<65536) (he:∀i,m<i→i<n→f i=g i) (hl:f m<g m):sB f n<sB g n:=by
 have key:∀k:Nat,m<k→k≤n→sB f k<sB g k:=by
  intro k
  induction k with
  |zero=>intro h;omega
  |succ k ih=>
   intro h1 h2
   rw [sB,sB]
   by_cases hk:k=m
   ·subst hk
    have r1:=gF k fun i hi=>hf i (by omega)
    have r2:=gF k fun i hi=>hg i (by omega)
    have hp:(0:Int)<65536^k:=Int.pow_pos (by omega)
    have:f k*65536^k+65536^k≤g k*65536^k:=by
     have:=Int.mul_le_mul_of_nonneg_right (show f k+1≤g k by omega) (show 0≤(65536:Int)^k by omega)
     rw [Int.add_mul,Int.one_mul] at this
     exact this
    omega
   ·have:=ih (by omega) (by omega)
    rw [he k (by omega) (by omega)]
    omega
 exact key n hm (Nat.le_refl _)
def gD (l:List Int):Nat→Int:=fun i=>l.getD i 0
def vR (l:List Int):Int:=sB (gD l) 16
def part (x:Int):Bool:=decide (0≤x)&&decide (x<65536)
theorem CI {x:Int}:part x=true↔0≤x∧x<65536:=by simp [part]
def cH (l:List Int):Bool:=decide (l.length=16)&&l.all part
theorem cv {l:List Int}:cH l=true↔l.length=16∧∀i,i<16→0≤l.getD i 0∧l.getD i 0<65536:=by
 unfold cH
 rw [Bool.and_eq_true,decide_eq_true_eq,List.all_eq_true]
 constructor
 ·rintro ⟨h1,h2⟩
  refine ⟨h1,fun i hi=>CI.1 (h2 _ ?_)⟩
  rw [List.getD_eq_getElem?_getD,List.getElem?_eq_getElem (by omega)]
  exact List.getElem_mem _
 ·rintro ⟨h1,h2⟩
  refine ⟨h1,fun x hx=>?_⟩
  obtain ⟨i,hi,rfl⟩:=List.getElem_of_mem hx
  have:=h2 i (by omega)
  rw [List.getD_eq_getElem?_getD,List.getElem?_eq_getElem hi] at this
  exact CI.2 this
def qi (n:Int):List Int:=(List.range 16).map fun i=>n/65536^i%65536
theorem xh (n:Int) {i:Nat} (h:i<16):(qi n).getD i 0=n/65536^i%65536:=by
 unfold qi
 rw [List.getD_eq_getElem?_getD,List.getElem?_map,List.getElem?_range h];rfl
theorem Ss (n:Int):cH (qi n)=true:=cv.2 ⟨by simp [qi],fun i hi=>by rw [xh n hi];omega⟩
theorem GZ {l:List Int} (h:cH l=true):qi (vR l)=l:=by
 obtain ⟨h1,h2⟩:=cv.1 h
 apply List.ext_getElem?
 intro i
 by_cases hi:i<16
 ·have e1:(qi (vR l))[i]? =some ((qi (vR l)).getD i 0):=by rw [List.getD_eq_getElem?_getD,List.getElem?_eq_getElem (by simp [qi];omega)];rfl
  have e2:l[i]? =some (l.getD i 0):=by rw [List.getD_eq_getElem?_getD,List.getElem?_eq_getElem (by omega)];rfl
  rw [e1,e2,xh _ hi]
  congr 1
  exact (rJ 16 i hi h2).symm
 ·rw [List.getElem?_eq_none (by simp [qi];omega),List.getElem?_eq_none (by omega)]
theorem EW (n:Int):∀k:Nat,0≤n→sB (fun i=>n/65536^i%65536) k=n%65536^k
 |0,h=>by simp [sB]
 |k+1,h=>by
  rw [sB,EW n k h,Int.pow_succ]
  have hp:(0:Int)<65536^k:=Int.pow_pos (by omega)
  have h1:=Int.mul_ediv_add_emod n (65536^k)
  have h2:=Int.mul_ediv_add_emod (n/65536^k) 65536
  have h3:n=65536^k*65536*(n/65536^k/65536)+(n%65536^k+n/65536^k%65536*65536^k):=by
   conv=>lhs;rw [←h1, ←h2]
   rw [Int.mul_add, ←Int.mul_assoc,Int.mul_comm (n/65536^k%65536)]
   generalize 65536^k*(n/65536^k%65536)=z
   rw [Int.add_assoc,Int.add_comm z]
  have r1:=Int.emod_nonneg n (show (65536:Int)^k≠0 by omega)
  have r2:=Int.emod_lt_of_pos n hp
  have r3:0≤n/65536^k%65536∧n/65536^k%65536<65536:=by omega
  have r4:n/65536^k%65536*65536^k≤65535*65536^k:=Int.mul_le_mul_of_nonneg_right (by omega) (by omega)
  have r5:0≤n/65536^k%65536*65536^k:=Int.mul_nonneg r3.1 (by omega)
  have h4:n%(65536^k*65536)=_:=congrArg (· %((65536:Int)^k*65536)) h3
  have h5:∀m q r:Int,0≤r→r<m→(m*q+r)%m=r:=fun m q r a b=>by rw [Int.add_comm,Int.add_mul_emod_self_left];exact Int.emod_eq_of_lt a b
  exact (h4.trans (h5 _ _ _ (by omega) (by omega))).symm
theorem G0 {n:Int} (h0:0≤n) (h1:n<115792089237316195423570985008687907853269984665640564039457584007913129639936):vR (qi n)=n:=by
 unfold vR
 rw [dS (f:=gD (qi n)) (g:=fun i=>n/65536^i%65536) 16 fun i hi=>xh n hi,EW n 16 h0]
 exact Int.emod_eq_of_lt h0 (by rw [show (65536:Int)^16=115792089237316195423570985008687907853269984665640564039457584007913129639936 by decide];exact h1)
theorem dU {l:List Int} (h:cH l=true):0≤vR l∧vR l<115792089237316195423570985008687907853269984665640564039457584007913129639936:=by
 have:=gF 16 (cv.1 h).2
 rw [show (65536:Int)^16=115792089237316195423570985008687907853269984665640564039457584007913129639936 by decide] at this
 exact this
end Go.Proofs.YtibfpjeeanppjaaGreat.Re
namespace Go.Proofs.YtibfpjeeanppjaaGreat.Re
open Go Go.Sy Fe
def u7:List Int:=[65517,65535,65535,65535,65535,65535,65535,65535,65535,65535,65535,65535,65535,65535,65535,32767]
theorem EX:cH u7=true:=by decide
theorem Ak:vR u7=Pm:=by decide
def G2:List SV→Option (SV×List Blk×Bool)
 | []=>some (.agg [.ints .i64 16 u7],[],true)
 |_=>none
noncomputable def Al:Entry Tryz.prog:=.val 127 _ Tryz.func127 (by decide) rfl false 0 G2 fun vs v new e=>by
 unfold G2 at e
 split at e
 ·cases e
  exact aF mV 20 Tryz.func127 (p:=true) (by kernel_rfl) rfl rfl
 ·cases e
def G3 (i:Int) (o:Bool):Bool:=aa (aa o (cL i 16)) (decide (0+i.toNat<16))
theorem j6 {i:Int} {o:Bool} (h0:0≤i) (h1:i<16) (ho:o=true):G3 i o=true:=by
 subst ho;unfold G3 cL
 rw [decide_eq_true h0,decide_eq_true (show i<(16:Nat) by omega),decide_eq_true (show 0+i.toNat<16 by omega)];rfl
noncomputable def VD (x y:Bool):bu:=mk (P:=Tryz.prog) [] [] fun i=>if i=7 then some x else if i=16 then some y else none
theorem og (x y:Bool):ag Tryz.prog (VD x y):=ah _ au.nil _ _
noncomputable def alB:Code:=inner (inner (aA 2 (aE Tryz.f129)))
noncomputable def YN (a b:List Int):List Blk:=[.b [.ints .i64 16 a],.b [.ints .i64 16 b]]
noncomputable def DD (a b:List Int) (i:Int):St:=⟨slotsOf 24 [(2,.ptr 0 0 0),(3,.ptr 1 0 0),(5,.int .i64 i)],YN a b,true⟩
section
variable (a b:List Int) (i:Int)
theorem aeV:(exec Tryz.prog (VD true true) 40 0 alB (DD a b i)).bind (fun r=>(r.2.cut [4] 2).map fun q=>(r.1,q))=
  some (.ret,⟨slotsOf 24 [(4,.bool (decide (a.getD (0+i.toNat) 0>b.getD (0+i.toNat) 0)))],YN a b,G3 i (G3 i (aa (G3 i (G3 i (aa true (decide (i≥0))))) (a.getD (0+i.toNat) 0 != b.getD (0+i.toNat) 0)))⟩):=by kernel_rfl
theorem aeW:(exec Tryz.prog (VD true false) 40 0 alB (DD a b i)).bind (fun r=>(r.2.cut [2,3,5] 2).map fun q=>(r.1,q))=
  some (.normal,⟨(DD a b (IntKind.i64.wrap (i-1))).t,YN a b,aa (G3 i (G3 i (aa true (decide (i≥0))))) (!(a.getD (0+i.toNat) 0 != b.getD (0+i.toNat) 0))⟩):=by kernel_rfl
theorem YO:(exec Tryz.prog (VD false false) 40 0 alB (DD a b i)).bind (fun r=>(r.2.cut [2,3,5] 2).map fun q=>(r.1,q))=
  some (.exit 0,⟨(DD a b i).t,YN a b,aa true (!decide (i≥0))⟩):=by kernel_rfl
theorem G4:(aW Tryz.prog (VD true true) 40 0 2 (atoms (aE Tryz.f129)) ⟨aO Tryz.f129.ntmps [.agg [.ints .i64 16 a],.agg [.ints .i64 16 b]],[],true⟩).bind (St.cut [2,3,5] 2)=some (DD a b 15):=by kernel_rfl
end
theorem CJ (f g:Nat→Int):∀n:Nat,(∀i,i<n→f i=g i)∨∃m,m<n∧f m≠g m∧∀i,m<i→i<n→f i=g i
 |0=>.inl fun i hi=>by omega
 |n+1=>by
  by_cases h:f n=g n
  ·rcases CJ f g n with q|⟨m,h1,h2,h3⟩
   ·exact .inl fun i hi=>by
     by_cases hn:i=n
     ·subst hn;exact h
     ·exact q i (by omega)
   ·exact .inr ⟨m,by omega,h2,fun i h4 h5=>by
     by_cases hn:i=n
     ·subst hn;exact h
     ·exact h3 i h4 (by omega)⟩
  ·exact .inr ⟨n,by omega,h,fun i h4 h5=>by omega⟩
theorem G5 {a b:List Int} {j:Nat} (hj:j<16) (h:a.getD (15-j) 0=b.getD (15-j) 0):Tr Tryz.prog none 0 alB (DD a b (15-j)) .normal (DD a b (15-((j+1:Nat):Int))):=by
 have k:=aeW a b (15-j)
 have e1:IntKind.i64.wrap (15-(j:Int)-1)=15-((j+1:Nat):Int):=by rw [wrap_i64 _ (by omega) (by omega)];omega
 have e2:0+(15-(j:Int)).toNat=15-j:=by omega
 rw [e1,e2] at k
 refine Tr.post (Tr.cut (og true false) 40 _ 2 (by omega) k ?_) (bq.same rfl rfl)
 rw [av]
 refine ⟨j6 (by omega) (by omega) (j6 (by omega) (by omega) (by rw [decide_eq_true (by omega)];rfl)),?_⟩
 rw [h];simp
theorem aeX {a b:List Int} (ha:cH a=true) (hb:cH b=true):ai Tryz.prog 129 [.agg [.ints .i64 16 a],.agg [.ints .i64 16 b]] [] (.bool (decide (vR b≤vR a))) []:=by
 have ha':=(cv.1 ha).2
 have hb':=(cv.1 hb).2
 rcases CJ (gD a) (gD b) 16 with hall|⟨m,hm,hne,hab⟩
 ·have hv:vR a=vR b:=dS 16 hall
  rw [decide_eq_true (show vR b≤vR a by omega)]
  have bY:Tr Tryz.prog none 0 (aA 2 (aE Tryz.f129)) (DD a b 15) .normal (DD a b (-1)):=by
   have key:=Tr.loop (P:=Tryz.prog) (ro:=none) (k:=0) 0 (c:=aA 2 (aE Tryz.f129)) (by kernel_rfl) (fun j:Nat=>DD a b (15-j)) 16 (s':=DD a b (-1)) (fun j hj=>?_) ?_
   ·exact key
   ·have q:=hall (15-j) (by omega)
    exact G5 hj q
   ·have k:=YO a b (-1)
    exact Tr.post (Tr.cut (og false false) 40 _ 2 (by omega) k rfl) (bq.same rfl rfl)
  refine ai.cu (og true true) 40 3 0 Tryz.func129 (by simp) rfl (fun s' x h=>?_) (s:=DD a b (-1)) (p:=true) (by kernel_rfl) rfl rfl rfl
  refine bf.items (og true true) 40 2 _ 2 (by simp) (G4 a b) rfl (by decide) ?_
  exact bf.item 2 (by decide) bY h
 ·have hv:decide (vR b≤vR a)=decide (a.getD m 0>b.getD m 0):=by
   rcases Int.lt_or_gt_of_ne hne with h|h
   ·have h1:vR a<vR b:=VC (f:=gD a) (g:=gD b) hm ha' hb' hab h
    have h':a.getD m 0<b.getD m 0:=h
    rw [decide_eq_false (by omega),decide_eq_false (by omega)]
   ·have h1:vR b<vR a:=VC (f:=gD b) (g:=gD a) hm hb' ha' (fun i h1 h2=>(hab i h1 h2).symm) h
    have h':b.getD m 0<a.getD m 0:=h
    rw [decide_eq_true (by omega),decide_eq_true (by omega)]
  rw [hv]
  have ML:Tr Tryz.prog none 0 alB (DD a b (15-((15-m:Nat):Int))) .ret ⟨slotsOf 24 [(4,.bool (decide (a.getD m 0>b.getD m 0)))],YN a b,true⟩:=by
   have k:=aeV a b (15-((15-m:Nat):Int))
   have e2:0+((15:Int)-((15-m:Nat):Int)).toNat=m:=by omega
   rw [e2] at k
   refine Tr.post (Tr.cut (og true true) 40 _ 2 (by omega) k ?_) (bq.same rfl rfl)
   refine j6 (by omega) (by omega) (j6 (by omega) (by omega) ?_)
   rw [av]
   refine ⟨j6 (by omega) (by omega) (j6 (by omega) (by omega) (by rw [decide_eq_true (by omega)];rfl)),?_⟩
   exact bne_iff_ne.2 hne
  have bY:iR Tryz.prog none 0 alB (DD a b 15) .ret ⟨slotsOf 24 [(4,.bool (decide (a.getD m 0>b.getD m 0)))],YN a b,true⟩:=
   by
    refine iR.for (by simp) (fun j:Nat=>DD a b (15-j)) (15-m) (fun j hj=>?_) ML
    have q:=hab (15-j) (by omega) (by omega)
    exact G5 (by omega) q
  refine (ai.mk (vs:=[.bool (decide (a.getD m 0>b.getD m 0))]) (h:=[]) Tryz.func129 rfl (x:=.ret) (s:=⟨slotsOf 24 [(4,.bool (decide (a.getD m 0>b.getD m 0)))],YN a b,true⟩) ?_ (.inl rfl) (by kernel_rfl)).post (bq.gl (n:=0) (by simp) (by rfl))
  refine bf.items (og true true) 40 2 _ 2 (by simp) (G4 a b) rfl (by decide) ?_
  exact bf.leave 2 (by decide) (by simp) (Tr.qD 0 (by kernel_rfl) bY)
noncomputable def aeY:List SV→Option (SV×List Blk×Bool)
 | [.agg [.ints .i64 16 a],.agg [.ints .i64 16 b]]=>some (.bool (decide (vR b≤vR a)),[],cH a&&cH b)
 |_=>none
noncomputable def CK:Entry Tryz.prog:=.val 129 _ Tryz.func129 (by decide) rfl false 0 aeY fun vs v new e=>by
 unfold aeY at e
 split at e
 ·simp only [Option.some.injEq,Prod.mk.injEq,Bool.and_eq_true] at e
  obtain ⟨rfl,rfl,ha,hb⟩:=e
  exact aeX ha hb
 ·cases e
def bw (a b:List Int):Nat→Int
 |0=>0
 |j+1=>if a.getD j 0-b.getD j 0-bw a b j<0 then 1 else 0
def P6 (a b:List Int) (j:Nat):Int:=a.getD j 0-b.getD j 0-bw a b j+65536*bw a b (j+1)
def uE (a b:List Int):Nat→List Int
 |0=>a
 |j+1=>(uE a b j).set j (P6 a b j)
theorem mD (a b:List Int):∀j,(uE a b j).length=a.length
 |0=>rfl
 |j+1=>by rw [uE,List.length_set,mD a b j]
theorem u9 (a b:List Int):∀(j i:Nat),i<a.length→(uE a b j).getD i 0=if i<j then P6 a b i else a.getD i 0
 |0,i,_=>rfl
 |j+1,i,h=>by
  rw [uE,List.getD_eq_getElem?_getD]
  by_cases hij:j=i
  ·subst hij
   rw [List.getElem?_set_self (by rw [mD];exact h),if_pos (by omega)];rfl
  ·rw [List.getElem?_set_ne hij, ←List.getD_eq_getElem?_getD,u9 a b j i h]
   by_cases h2:i<j
   ·rw [if_pos h2,if_pos (by omega)]
   ·rw [if_neg h2,if_neg (by omega)]
theorem EY (a b:List Int):∀j,bw a b j=0∨bw a b j=1
 |0=>.inl rfl
 |j+1=>by rw [bw];split
          ·exact .inr rfl
          ·exact .inl rfl
theorem Nt {a b:List Int} (ha:cH a=true) (hb:cH b=true) {j:Nat} (hj:j<16):0≤P6 a b j∧P6 a b j<65536:=by
 have h1:=(cv.1 ha).2 j hj
 have h2:=(cv.1 hb).2 j hj
 have h3:=EY a b j
 unfold P6
 rw [bw]
 split<;>omega
theorem G6 (a b:List Int):∀n,sB (P6 a b) n=sB (gD a) n-sB (gD b) n+65536^n*bw a b n
 |0=>by simp [sB,bw]
 |n+1=>by
  rw [sB,sB,sB,G6 a b n]
  have e:P6 a b n=gD a n-gD b n-bw a b n+65536*bw a b (n+1):=rfl
  rw [e,Int.pow_succ]
  generalize gD a n=x
  generalize gD b n=y
  generalize bw a b n=u
  generalize bw a b (n+1)=v
  generalize (65536:Int)^n=P
  grind
theorem YP {a b:List Int} (ha:cH a=true) (hb:cH b=true) (hle:vR b≤vR a):uE a b 16=qi (vR a-vR b):=by
 have hl:(uE a b 16).length=16:=by rw [mD,(cv.1 ha).1]
 have hla:=(cv.1 ha).1
 have hok:cH (uE a b 16)=true:=cv.2 ⟨hl,fun i hi=>by rw [u9 a b 16 i (by omega),if_pos hi];exact Nt ha hb hi⟩
 have hs:=G6 a b 16
 have hv:vR (uE a b 16)=sB (P6 a b) 16:=dS 16 fun i hi=>by show (uE a b 16).getD i 0=_;rw [u9 a b 16 i (by omega),if_pos hi]
 have r:=dU hok
 have r1:=dU ha
 have r2:=dU hb
 have hbw:=EY a b 16
 have hp:(65536:Int)^16=115792089237316195423570985008687907853269984665640564039457584007913129639936:=by decide
 rw [hp] at hs
 have hs':vR (uE a b 16)=vR a-vR b+115792089237316195423570985008687907853269984665640564039457584007913129639936*bw a b 16:=by rw [hv];exact hs
 have h0:vR (uE a b 16)=vR a-vR b:=by rcases hbw with h|h<;>rw [h] at hs'<;>omega
 rw [←h0,GZ hok]
noncomputable def mnC (x y:Bool):bu:=mk (P:=Tryz.prog) [] [] fun i=>if i=9 then some x else if i=22 then some y else none
theorem xj (x y:Bool):ag Tryz.prog (mnC x y):=ah _ au.nil _ _
noncomputable def mnB:Code:=inner (inner (aA 3 (aE Tryz.f126)))
def JP:List Int:=List.replicate 16 0
noncomputable def VF (a b:List Int):List Blk:=[.b [.ints .i64 16 a],.b [.ints .i64 16 b],.b [.ints .i64 16 JP]]
noncomputable def G7 (a b:List Int) (c:Int) (i:Int):St:=⟨slotsOf 29 [(2,.ptr 0 0 0),(3,.ptr 1 0 0),(4,.ptr 2 0 0),(5,.int .i64 c),(6,.int .i64 i)],VF a b,true⟩
def mnT (a b:List Int) (c i:Int):Int:=IntKind.i64.wrap (IntKind.i64.wrap (a.getD (0+i.toNat) 0-b.getD (0+i.toNat) 0)-c)
section
variable (a b:List Int) (c i:Int)
theorem YQ:(exec Tryz.prog (mnC true true) 40 0 mnB (G7 a b c i)).bind (fun r=>(r.2.cut [2,3,4,5,6] 3).map fun q=>(r.1,q))=
  some (.normal,⟨(G7 a b 1 (IntKind.i64.wrap (i+1))).t,VF (a.set (0+i.toNat) (IntKind.i64.wrap (mnT a b c i+65536))) b,
   aa (aa (aa (G3 i (G3 i (aa true (decide (i<16))))) (decide (mnT a b c i<0))) (cL i 16)) (decide (0+i.toNat<16)&&decide (a.length=16))⟩):=by kernel_rfl
theorem YR:(exec Tryz.prog (mnC true false) 40 0 mnB (G7 a b c i)).bind (fun r=>(r.2.cut [2,3,4,5,6] 3).map fun q=>(r.1,q))=
  some (.normal,⟨(G7 a b 0 (IntKind.i64.wrap (i+1))).t,VF (a.set (0+i.toNat) (mnT a b c i)) b,
   aa (aa (aa (G3 i (G3 i (aa true (decide (i<16))))) (!decide (mnT a b c i<0))) (cL i 16)) (decide (0+i.toNat<16)&&decide (a.length=16))⟩):=by kernel_rfl
theorem YS:(exec Tryz.prog (mnC false false) 40 0 mnB (G7 a b c i)).bind (fun r=>(r.2.cut [2,3,4,5,6] 3).map fun q=>(r.1,q))=
  some (.exit 0,⟨(G7 a b c i).t,VF a b,aa true (!decide (i<16))⟩):=by kernel_rfl
theorem Su:(aW Tryz.prog (mnC true true) 40 0 3 (atoms (aE Tryz.f126)) ⟨aO Tryz.f126.ntmps [.agg [.ints .i64 16 a],.agg [.ints .i64 16 b]],[],true⟩).bind (St.cut [2,3,4,5,6] 3)=some (G7 a b 0 0):=by kernel_rfl
end
noncomputable def DE (a b:List Int):List Int:=gY (qi (vR a-vR b))
theorem Sv {a b:List Int} (ha:cH a=true) (hb:cH b=true) {j:Nat} (hj:j<16):Tr Tryz.prog none 0 mnB (G7 (uE a b j) b (bw a b j) j) .normal (G7 (uE a b (j+1)) b (bw a b (j+1)) ((j+1:Nat):Int)):=by
 have hla:=(cv.1 ha).1
 have p1:=(cv.1 ha).2 j hj
 have p2:=(cv.1 hb).2 j hj
 have p3:=EY a b j
 have hT:mnT (uE a b j) b (bw a b j) j=a.getD j 0-b.getD j 0-bw a b j:=by
  unfold mnT
  rw [show 0+(j:Int).toNat=j by omega,u9 a b j j (by omega),if_neg (by omega),wrap_i64 (a.getD j 0-b.getD j 0) (by omega) (by omega),wrap_i64 _ (by omega) (by omega)]
 have e1:IntKind.i64.wrap ((j:Int)+1)=((j+1:Nat):Int):=by rw [wrap_i64 _ (by omega) (by omega)];omega
 have e2:0+(j:Int).toNat=j:=by omega
 have hlen:(uE a b j).length=16:=by rw [mD,hla]
 have o1:G3 j (G3 j (aa true (decide ((j:Int)<16))))=true:=j6 (by omega) (by omega) (j6 (by omega) (by omega) (by rw [decide_eq_true (by omega)];rfl))
 have o2:cL (j:Int) 16=true:=by unfold cL;rw [decide_eq_true (by omega),decide_eq_true (by omega)];rfl
 by_cases hneg:a.getD j 0-b.getD j 0-bw a b j<0
 ·have k:=YQ (uE a b j) b (bw a b j) j
  rw [hT,e1,e2] at k
  refine Tr.post (Tr.cut (xj true true) 40 _ 3 (by omega) k ?_) (bq.same ?_ ?_)
  ·rw [o1,o2,hlen,decide_eq_true hneg,decide_eq_true (show j<16 from hj)];rfl
  ·rw [show bw a b (j+1)=1 by rw [bw,if_pos hneg]];rfl
  ·show VF _ _=VF _ _
   rw [uE,P6,bw,if_pos hneg,wrap_i64 _ (by omega) (by omega)]
   rfl
 ·have k:=YR (uE a b j) b (bw a b j) j
  rw [hT,e1,e2] at k
  refine Tr.post (Tr.cut (xj true false) 40 _ 3 (by omega) k ?_) (bq.same ?_ ?_)
  ·rw [o1,o2,hlen,decide_eq_false hneg,decide_eq_true (show j<16 from hj)];rfl
  ·rw [show bw a b (j+1)=0 by rw [bw,if_neg hneg]];rfl
  ·show VF _ _=VF _ _
   rw [uE,P6,bw,if_neg hneg]
   rw [Int.mul_zero,Int.add_zero]
theorem ae0 {a b:List Int} (ha:cH a=true) (hb:cH b=true) (hle:vR b≤vR a):ai Tryz.prog 126 [.agg [.ints .i64 16 a],.agg [.ints .i64 16 b]] [] (.agg [.ints .i64 16 (DE a b)]) []:=by
 rw [DE,aD, ←YP ha hb hle]
 have bY:Tr Tryz.prog none 0 (aA 3 (aE Tryz.f126)) (G7 a b 0 0) .normal (G7 (uE a b 16) b (bw a b 16) 16):=by
  have key:=Tr.loop (P:=Tryz.prog) (ro:=none) (k:=0) 0 (c:=aA 3 (aE Tryz.f126)) (by kernel_rfl) (fun j:Nat=>G7 (uE a b j) b (bw a b j) j) 16 (s':=G7 (uE a b 16) b (bw a b 16) 16) (fun j hj=>?_) ?_
  ·exact key
  ·exact Sv ha hb hj
  ·have k:=YS (uE a b 16) b (bw a b 16) 16
   exact Tr.post (Tr.cut (xj false false) 40 _ 3 (by omega) k rfl) (bq.same rfl rfl)
 refine ai.cu (xj true true) 40 4 0 Tryz.func126 (by simp) rfl (fun s' x h=>?_) (s:=G7 (uE a b 16) b (bw a b 16) 16) (p:=true) (by kernel_rfl) rfl rfl rfl
 refine bf.items (xj true true) 40 3 _ 3 (by simp) (Su a b) rfl (by decide) ?_
 exact bf.item 3 (by decide) bY h
noncomputable def ae1:List SV→Option (SV×List Blk×Bool)
 | [.agg [.ints .i64 16 a],.agg [.ints .i64 16 b]]=>some (.agg [.ints .i64 16 (DE a b)],[],cH a&&cH b&&decide (vR b≤vR a))
 |_=>none
noncomputable def Am:Entry Tryz.prog:=.val 126 _ Tryz.func126 (by decide) rfl false 0 ae1 fun vs v new e=>by
 unfold ae1 at e
 split at e
 ·simp only [Option.some.injEq,Prod.mk.injEq,Bool.and_eq_true,decide_eq_true_eq] at e
  obtain ⟨rfl,rfl,⟨ha,hb⟩,hc⟩:=e
  exact ae0 ha hb hc
 ·cases e
end Go.Proofs.YtibfpjeeanppjaaGreat.Re
namespace Go.Proofs.YtibfpjeeanppjaaGreat.Re
open Go Go.Sy Fe
abbrev iw (n:Int):Int:=IntKind.i64.wrap n
def nC (f:Nat→Int):Nat→Int
 |0=>iw (f 0+0)
 |i+1=>iw (f (i+1)+iw ((nC f i).tdiv 65536))
def dC (f:Nat→Int) (i:Nat):Int:=(nC f i).tmod 65536
def mE (L:List Int):List Int:=(List.range 16).map (fun i=>iw (dC (gD L) i+iw (38*dC (gD L) (i+16))))++List.replicate 16 0
noncomputable def YT (L O:List Int):List Blk:=[.b [.ints .i64 32 L],.b [.ints .i64 16 JP],.b [.ints .i64 16 O]]
noncomputable def x9 (L:List Int) (i:Int):St:=⟨slotsOf 103 [(1,.ptr 0 0 0),(2,.ptr 1 0 0),(3,.ptr 2 0 0),(4,.int .i64 i)],YT L JP,true⟩
noncomputable def ya (x:Bool):bu:=mk (P:=Tryz.prog) [Al,CK,Am] [] fun i=>if i=16 then some x else if i=98 then some x else none
theorem dH (x:Bool):ag Tryz.prog (ya x):=ah _ au.nil _ _
noncomputable def YU:bu:=mk (P:=Tryz.prog) [] []
theorem An:ag Tryz.prog YU:=ah _ au.nil _ _
noncomputable def smB:Code:=inner (inner (aA 3 (aE Tryz.f91)))
def mC (f:Nat→Int):Nat→Int
 |0=>iw (dC f 0+iw (19*iw ((dC f 15).tdiv 32768)))
 |i+1=>iw ((if i=14 then (dC f 15).tmod 32768 else dC f (i+1))+iw ((mC f i).tdiv 65536))
def xk (L:List Int):List Int:=(List.range 16).map fun i=>(mC (gD L) i).tmod 65536
noncomputable def Bf (L O:List Int):St:=⟨slotsOf 103 [(2,.ptr 1 0 0),(3,.ptr 2 0 0)],YT L O,true⟩
noncomputable def P7:Code:=inner (inner (aA 12 (aE Tryz.f91)))
section
variable (L O:List Int) (i:Int)
theorem xl:(exec Tryz.prog (ya true) 80 0 smB (x9 (aH 32 L) i)).bind (fun r=>(r.2.cut [1,2,3,4] 3).map fun q=>(r.1,q))=
  some (.normal,⟨(x9 L (iw (i+1))).t,YT (mE (aH 32 L)) JP,aa true (decide (i<4))⟩):=by kernel_rfl
theorem Sw:(exec Tryz.prog (ya false) 80 0 smB (x9 L i)).bind (fun r=>(r.2.cut [1,2,3,4] 3).map fun q=>(r.1,q))=
  some (.exit 0,⟨(x9 L i).t,YT L JP,aa true (!decide (i<4))⟩):=by kernel_rfl
theorem Ao:(aW Tryz.prog YU 60 0 3 (atoms (aE Tryz.f91)) ⟨aO Tryz.f91.ntmps [.agg [.ints .i64 32 L]],[],true⟩).bind (St.cut [1,2,3,4] 3)=some (x9 L 0):=by kernel_rfl
theorem YV:(aW Tryz.prog YU 80 0 8 ((atoms (aE Tryz.f91)).drop 4) ⟨(x9 L 4).t,YT (aH 32 L) JP,true⟩).bind (St.cut [2,3] 3)=some (Bf (aH 32 L) (xk (aH 32 L))):=by kernel_rfl
end
end Go.Proofs.YtibfpjeeanppjaaGreat.Re
namespace Go.Proofs.YtibfpjeeanppjaaGreat.Re
open Go Go.Sy Fe
def cC (f:Nat→Int):Nat→Int
 |0=>0
 |i+1=>(f i+cC f i)/65536
theorem CL {f:Nat→Int} {n:Nat} (h:∀i,i<n→0≤f i∧f i≤1125899906842624):∀i,i≤n→0≤cC f i∧cC f i≤1125899906842624
 |0,_=>by simp [cC]
 |i+1,hi=>by
  have:=h i (by omega)
  have:=CL h i (by omega)
  rw [cC];omega
theorem yO (f:Nat→Int):∀n:Nat,sB f n=sB (fun i=>(f i+cC f i)%65536) n+65536^n*cC f n
 |0=>by simp [sB,cC]
 |n+1=>by
  rw [sB,sB,yO f n,cC,Int.pow_succ]
  have e:f n=(f n+cC f n)%65536+65536*((f n+cC f n)/65536)-cC f n:=by omega
  generalize (f n+cC f n)%65536=x at*
  generalize (f n+cC f n)/65536=y at*
  generalize cC f n=z at*
  generalize (65536:Int)^n=P
  rw [e]
  grind
theorem EZ {f:Nat→Int} {n:Nat} (h:∀i,i<n→0≤f i∧f i≤1125899906842624):∀i,i<n→nC f i=f i+cC f i∧dC f i=(f i+cC f i)%65536:=by
 have key:∀i,i<n→nC f i=f i+cC f i:=by
  intro i
  induction i with
  |zero=>
   intro hi
   have:=h 0 hi
   rw [nC,cC,iw,wrap_i64 _ (by omega) (by omega)]
  |succ i ih=>
   intro hi
   have h0:=h i (by omega)
   have h1:=h (i+1) hi
   have c0:=CL h i (by omega)
   have c1:=CL h (i+1) (by omega)
   rw [cC] at c1
   rw [nC,ih (by omega),Int.tdiv_eq_ediv_of_nonneg (by omega),cC,iw,iw,wrap_i64 ((f i+cC f i)/65536) (by omega) (by omega),wrap_i64 _ (by omega) (by omega)]
 intro i hi
 have h0:=h i hi
 have c0:=CL h i (by omega)
 refine ⟨key i hi,?_⟩
 unfold dC
 rw [key i hi,Int.tmod_eq_emod_of_nonneg (by omega)]
theorem xm {f:Nat→Int} {n:Nat} (h:∀i,i<n→0≤f i∧f i≤1125899906842624) (hv:sB f n<65536^n):sB (dC f) n=sB f n:=by
 have e:=yO f n
 have hd:sB (dC f) n=sB (fun i=>(f i+cC f i)%65536) n:=dS n fun i hi=>(EZ h i hi).2
 have r:=gF (f:=fun i=>(f i+cC f i)%65536) n fun i hi=>by show 0≤(f i+cC f i)%65536∧_;omega
 have hc:=CL h n (Nat.le_refl _)
 have hp:(0:Int)<65536^n:=Int.pow_pos (by omega)
 have:cC f n=0:=by
  by_cases h1:1≤cC f n
  ·have:=Int.mul_le_mul_of_nonneg_left h1 (show 0≤(65536:Int)^n by omega)
   omega
  ·omega
 rw [this] at e
 omega
theorem va {f:Nat→Int} {n:Nat} (h:∀i,i<n→0≤f i∧f i≤1125899906842624):∀i,i<n→0≤dC f i∧dC f i<65536:=fun i hi=>by
 rw [(EZ h i hi).2];omega
def dh:Int:=115792089237316195423570985008687907853269984665640564039457584007913129639936
theorem xo:(65536:Int)^16=dh:=by decide
theorem Nu:(65536:Int)^32=dh*dh:=by decide
def rv (V:Int):Int:=V%dh+38*(V/dh)
structure Lk (L:List Int):Prop where
 len:L.length=32
 b:∀i,i<32→0≤gD L i∧gD L i≤1125899906842624
theorem vb {L:List Int} (h:Lk L) (i:Nat) (hi:i<32):gD (mE L) i=if i<16 then dC (gD L) i+38*dC (gD L) (i+16) else 0:=by
 unfold gD mE
 rw [List.getD_eq_getElem?_getD]
 by_cases Ap:i<16
 ·have p1:=va h.b i (by omega)
  have p2:=va h.b (i+16) (by omega)
  rw [List.getElem?_append_left (by simpa using Ap),List.getElem?_map,List.getElem?_range Ap,if_pos Ap]
  show iw (dC (gD L) i+iw (38*dC (gD L) (i+16)))=_
  rw [iw,iw,wrap_i64 (38*_) (by omega) (by omega),wrap_i64 _ (by omega) (by omega)]
  rfl
 ·rw [List.getElem?_append_right (by simp;omega),if_neg Ap,List.getElem?_replicate,if_pos (by simp;omega)];rfl
theorem G8 {L:List Int} (h:Lk L) (hv:sB (gD L) 32<dh*dh):Lk (mE L)∧(∀i,i<32→gD (mE L) i≤2555865)∧(∀i,16≤i→i<32→gD (mE L) i=0)∧sB (gD (mE L)) 32=rv (sB (gD L) 32):=by
 have hp:=va h.b
 have hb:∀i,i<32→0≤gD (mE L) i∧gD (mE L) i≤2555865:=fun i hi=>by
  rw [vb h i hi]
  split
  ·have:=hp i hi
   have:=hp (i+16) (by omega)
   omega
  ·omega
 refine ⟨⟨by simp [mE],fun i hi=>by have:=hb i hi;omega⟩,fun i hi=>(hb i hi).2,fun i h1 hi=>by rw [vb h i hi,if_neg (by omega)],?_⟩
 have e0:=xm h.b (by rw [Nu];exact hv)
 have e1:sB (dC (gD L)) (16+16)=sB (dC (gD L)) 16+65536^16*sB (fun i=>dC (gD L) (16+i)) 16:=fe _ 16 16
 have e2:sB (gD (mE L)) (16+16)=sB (gD (mE L)) 16+65536^16*sB (fun i=>gD (mE L) (16+i)) 16:=fe _ 16 16
 have e3:sB (fun i=>gD (mE L) (16+i)) 16=0:=mB 16 fun i hi=>by show gD (mE L) (16+i)=0;rw [vb h _ (by omega),if_neg (by omega)]
 have e4:sB (gD (mE L)) 16=sB (dC (gD L)) 16+38*sB (fun i=>dC (gD L) (16+i)) 16:=by
  rw [←EV, ←Aj]
  refine dS 16 fun i hi=>?_
  rw [vb h i (by omega),if_pos hi,Nat.add_comm 16 i]
 have r1:=gF 16 fun i hi=>hp i (by omega)
 have r2:=gF (f:=fun i=>dC (gD L) (16+i)) 16 fun i hi=>hp (16+i) (by omega)
 rw [xo] at*
 have hB:dh=115792089237316195423570985008687907853269984665640564039457584007913129639936:=rfl
 unfold rv
 rw [←e0]
 show sB (gD (mE L)) (16+16)=sB (dC (gD L)) (16+16)%dh+38*(sB (dC (gD L)) (16+16)/dh)
 rw [e2,e3,e4,e1]
 generalize sB (dC (gD L)) 16=x at*
 generalize sB (fun i=>dC (gD L) (16+i)) 16=y at*
 rw [hB] at*
 omega
theorem Aq (V:Int):rv V%Pm=V%Pm:=by
 have:rv V=V-2*(V/dh)*Pm:=by
  unfold rv
  have hB:dh=115792089237316195423570985008687907853269984665640564039457584007913129639936:=rfl
  rw [jC,hB]
  omega
 exact kE this
def dW (L:List Int):Nat→List Int
 |0=>L
 |j+1=>mE (dW L j)
def qj (V:Int):Nat→Int
 |0=>V
 |j+1=>rv (qj V j)
theorem VG {V:Int} (h0:0≤V) (h1:V<dh*dh):(0≤qj V 1∧qj V 1<39*dh)∧(0≤qj V 2∧qj V 2<dh+1444)∧(0≤qj V 3∧qj V 3<dh)∧(0≤qj V 4∧qj V 4<dh):=by
 have hB:dh=115792089237316195423570985008687907853269984665640564039457584007913129639936:=rfl
 have a1:0≤qj V 1∧qj V 1<39*dh:=by
  show 0≤rv V∧rv V<39*dh
  unfold rv
  rw [hB] at h1 ⊢
  omega
 have a2:0≤qj V 2∧qj V 2<dh+1444:=by
  show 0≤rv (qj V 1)∧rv (qj V 1)<dh+1444
  generalize qj V 1=x at*
  unfold rv
  rw [hB] at a1 ⊢
  omega
 have a3:0≤qj V 3∧qj V 3<dh:=by
  show 0≤rv (qj V 2)∧rv (qj V 2)<dh
  generalize qj V 2=x at*
  unfold rv
  rw [hB] at a2 ⊢
  omega
 refine ⟨a1,a2,a3,?_⟩
 show 0≤rv (qj V 3)∧rv (qj V 3)<dh
 generalize qj V 3=x at*
 unfold rv
 rw [hB] at a3 ⊢
 omega
theorem Nv {L:List Int} (h:Lk L) (hv:sB (gD L) 32<dh*dh):∀j,j≤4→Lk (dW L j)∧sB (gD (dW L j)) 32=qj (sB (gD L) 32) j:=by
 have h0:0≤sB (gD L) 32:=by
  have:∀n,n≤32→0≤sB (gD L) n:=by
   intro n
   induction n with
   |zero=>intro _;simp [sB]
   |succ n ih=>
    intro hn
    rw [sB]
    have h1:=ih (by omega)
    have h2:=Int.mul_nonneg (h.b n (by omega)).1 (show 0≤(65536:Int)^n from Int.pow_nonneg (by omega))
    omega
  exact this 32 (Nat.le_refl _)
 obtain ⟨b1,b2,b3,b4⟩:=VG h0 hv
 have hB:dh=115792089237316195423570985008687907853269984665640564039457584007913129639936:=rfl
 have step:∀j,Lk (dW L j)∧sB (gD (dW L j)) 32=qj (sB (gD L) 32) j→qj (sB (gD L) 32) j<dh*dh→Lk (dW L (j+1))∧sB (gD (dW L (j+1))) 32=qj (sB (gD L) 32) (j+1):=fun j g hlt=>by
  obtain ⟨k1,_,_,k2⟩:=G8 g.1 (by rw [g.2];exact hlt)
  exact ⟨k1,by show sB (gD (mE (dW L j))) 32=rv (qj (sB (gD L) 32) j);rw [k2,g.2]⟩
 have s0:Lk (dW L 0)∧sB (gD (dW L 0)) 32=qj (sB (gD L) 32) 0:=⟨h,rfl⟩
 have s1:=step 0 s0 hv
 rw [hB] at b1 b2 b3
 have s2:=step 1 s1 (by rw [hB];omega)
 have s3:=step 2 s2 (by rw [hB];omega)
 have s4:=step 3 s3 (by rw [hB];omega)
 intro j hj
 have:j=0∨j=1∨j=2∨j=3∨j=4:=by omega
 rcases this with rfl|rfl|rfl|rfl|rfl
 ·exact s0
 ·exact s1
 ·exact s2
 ·exact s3
 ·exact s4
end Go.Proofs.YtibfpjeeanppjaaGreat.Re
namespace Go.Proofs.YtibfpjeeanppjaaGreat.Re
open Go Go.Sy Fe
def gO (f:Nat→Int) (i:Nat):Int:=(if i=15 then dC f 15%32768 else dC f i)+(if i=0 then 19*(dC f 15/32768) else 0)
theorem Ar {L:List Int} (h:∀i,i<16→0≤gD L i∧gD L i≤1125899906842624) (hv:sB (gD L) 16<dh):
  cH (xk L)=true∧∃t,vR (xk L)=sB (gD L) 16-t*Pm∧0≤vR (xk L)∧vR (xk L)<57896044618658097711785492504343953926634992332820282019728792003956564819987:=by
 have hp:=va h
 have e0:=xm h (by rw [xo];exact hv)
 have p15:=hp 15 (by omega)
 have p0:=hp 0 (by omega)
 have hg:∀i,i<16→0≤gO (gD L) i∧gO (gD L) i≤1125899906842624:=fun i hi=>by
  have:=hp i hi
  unfold gO
  split<;>split<;>omega
 -- the chain is the one of amE parts
 have hm:∀i,i<16→mC (gD L) i=gO (gD L) i+cC (gO (gD L)) i:=by
  intro i
  induction i with
  |zero=>
   intro _
   rw [mC,cC,gO,if_neg (by omega),if_pos rfl,Int.tdiv_eq_ediv_of_nonneg p15.1,iw,iw,iw,wrap_i64 (_/32768) (by omega) (by omega),wrap_i64 (19*_) (by omega) (by omega),wrap_i64 _ (by omega) (by omega)]
   omega
  |succ i ih=>
   intro hi
   have c1:=CL hg (i+1) (by omega)
   have c0:=CL hg i (by omega)
   have g0:=hg i (by omega)
   have g1:=hg (i+1) hi
   have hsel:(if i=14 then (dC (gD L) 15).tmod 32768 else dC (gD L) (i+1))=gO (gD L) (i+1):=by
    unfold gO
    rw [if_neg (show ¬i+1=0 by omega),Int.add_zero]
    by_cases h14:i=14
    ·subst h14
     rw [if_pos rfl,if_pos rfl,Int.tmod_eq_emod_of_nonneg p15.1]
    ·rw [if_neg h14,if_neg (by omega)]
   rw [cC] at c1
   rw [mC,ih (by omega),hsel,cC,Int.tdiv_eq_ediv_of_nonneg (by omega),iw,iw,wrap_i64 ((gO (gD L) i+cC (gO (gD L)) i)/65536) (by omega) (by omega),wrap_i64 _ (by omega) (by omega)]
 have wQ:∀i,i<16→gD (xk L) i=(gO (gD L) i+cC (gO (gD L)) i)%65536:=fun i hi=>by
  unfold gD xk
  rw [List.getD_eq_getElem?_getD,List.getElem?_map,List.getElem?_range hi]
  show (mC (gD L) i).tmod 65536=_
  have c0:=CL hg i (by omega)
  have g0:=hg i hi
  rw [hm i hi,Int.tmod_eq_emod_of_nonneg (by omega)]
  rfl
 have hok:cH (xk L)=true:=cv.2 ⟨by simp [xk],fun i hi=>by have:=wQ i hi;unfold gD at this;rw [this];omega⟩
 -- the sum of the parts
 have hs:sB (gO (gD L)) 16=sB (gD L) 16-(dC (gD L) 15/32768)*Pm:=by
  rw [←e0]
  have s1:sB (gO (gD L)) 16=sB (gO (gD L)) 15+gO (gD L) 15*65536^15:=rfl
  have s2:sB (dC (gD L)) 16=sB (dC (gD L)) 15+dC (gD L) 15*65536^15:=rfl
  have s3:sB (gO (gD L)) 15=sB (dC (gD L)) 15+19*(dC (gD L) 15/32768):=by
   have a1:=fe (gO (gD L)) 1 14
   have a2:=fe (dC (gD L)) 1 14
   have a3:sB (fun i=>gO (gD L) (1+i)) 14=sB (fun i=>dC (gD L) (1+i)) 14:=dS 14 fun i hi=>by
    show gO (gD L) (1+i)=dC (gD L) (1+i)
    unfold gO
    rw [if_neg (by omega),if_neg (by omega),Int.add_zero]
   have a4:sB (gO (gD L)) 1=dC (gD L) 0+19*(dC (gD L) 15/32768):=by simp [sB,gO]
   have a5:sB (dC (gD L)) 1=dC (gD L) 0:=by simp [sB]
   show sB (gO (gD L)) (1+14)=sB (dC (gD L)) (1+14)+_
   rw [a1,a2,a3,a4,a5]
   omega
  have s4:gO (gD L) 15=dC (gD L) 15%32768:=by unfold gO;rw [if_pos rfl,if_neg (by omega),Int.add_zero]
  rw [s1,s2,s3,s4,jC]
  have hpw:(65536:Int)^15=1766847064778384329583297500742918515827483896875618958121606201292619776:=by decide
  rw [hpw]
  omega
 have hlt:sB (gO (gD L)) 16<57896044618658097711785492504343953926634992332820282019728792003956564819987:=by
  have s1:sB (gO (gD L)) 16=sB (gO (gD L)) 15+gO (gD L) 15*65536^15:=rfl
  have s4:gO (gD L) 15=dC (gD L) 15%32768:=by unfold gO;rw [if_pos rfl,if_neg (by omega),Int.add_zero]
  have s3:sB (gO (gD L)) 15=sB (dC (gD L)) 15+19*(dC (gD L) 15/32768):=by
   have a1:=fe (gO (gD L)) 1 14
   have a2:=fe (dC (gD L)) 1 14
   have a3:sB (fun i=>gO (gD L) (1+i)) 14=sB (fun i=>dC (gD L) (1+i)) 14:=dS 14 fun i hi=>by
    show gO (gD L) (1+i)=dC (gD L) (1+i)
    unfold gO
    rw [if_neg (by omega),if_neg (by omega),Int.add_zero]
   have a4:sB (gO (gD L)) 1=dC (gD L) 0+19*(dC (gD L) 15/32768):=by simp [sB,gO]
   have a5:sB (dC (gD L)) 1=dC (gD L) 0:=by simp [sB]
   show sB (gO (gD L)) (1+14)=sB (dC (gD L)) (1+14)+_
   rw [a1,a2,a3,a4,a5]
   omega
  have r:=gF 15 fun i hi=>hp i (by omega)
  have hpw:(65536:Int)^15=1766847064778384329583297500742918515827483896875618958121606201292619776:=by decide
  rw [hpw] at r
  rw [s1,s3,s4,hpw]
  omega
 have hv2:vR (xk L)=sB (gO (gD L)) 16:=by
  have e1:sB (dC (gO (gD L))) 16=sB (gO (gD L)) 16:=xm hg (by
   rw [xo]
   have hB:dh=115792089237316195423570985008687907853269984665640564039457584007913129639936:=rfl
   rw [hB];omega)
  rw [←e1]
  exact dS 16 fun i hi=>by rw [wQ i hi,(EZ hg i hi).2]
 refine ⟨hok,dC (gD L) 15/32768,by rw [hv2,hs],(dU hok).1,by rw [hv2];exact hlt⟩
section
variable (L O:List Int)
noncomputable def YW (x:Bool):bu:=mk (P:=Tryz.prog) [Al,CK,Am] [] fun i=>if i=98 then some x else none
theorem G9 (x:Bool):ag Tryz.prog (YW x):=ah _ au.nil _ _
theorem ae3:(exec Tryz.prog (YW true) 80 0 P7 (Bf L O)).bind (fun r=>(r.2.cut [2,3] 3).map fun q=>(r.1,q))=
  some (.normal,⟨(Bf L O).t,YT L (DE O u7),aa (aa (aa true (aa true (cH O&&cH u7))) (decide (vR u7≤vR O))) (aa true (cH O&&cH u7&&decide (vR u7≤vR O)))⟩):=by kernel_rfl
theorem ae4:(exec Tryz.prog (YW false) 80 0 P7 (Bf L O)).bind (fun r=>(r.2.cut [2,3] 3).map fun q=>(r.1,q))=
  some (.exit 10,⟨(Bf L O).t,YT L O,aa (aa true (aa true (cH O&&cH u7))) (!decide (vR u7≤vR O))⟩):=by kernel_rfl
end
noncomputable def cw (n:Int):List Int:=gY (qi n)
theorem mF (n:Int):cw n=qi n:=aD _
theorem bP (n:Int):cH (cw n)=true:=by rw [mF];exact Ss n
theorem jh {n:Int} (h0:0≤n) (h1:n<Pm):vR (cw n)=n:=by rw [mF];exact G0 h0 (by rw [jC] at h1;omega)
theorem Nw {L O:List Int} (ho:cH O=true) (h1:vR O<57896044618658097711785492504343953926634992332820282019728792003956564819987):
  Tr Tryz.prog none 0 (aA 12 (aE Tryz.f91)) (Bf L O) .normal (Bf L (cw (vR O%Pm))):=by
 have h0:=(dU ho).1
 have qp:=Ak
 have stop:∀Q:List Int,cH Q=true→vR Q<Pm→Tr Tryz.prog none 0 P7 (Bf L Q) (.exit 10) (Bf L Q):=fun Q hq hlt=>by
  have k:=ae4 L Q
  refine Tr.post (Tr.cut (G9 false) 80 _ 3 (by omega) k ?_) (bq.same rfl rfl)
  rw [hq,EX,qp,decide_eq_false (by omega)];rfl
 by_cases hle:Pm≤vR O
 ·have hm:DE O u7=cw (vR O%Pm):=by
   rw [DE,aD,mF,qp]
   congr 1
   rw [jC] at*
   omega
  have hr:Tr Tryz.prog none 0 P7 (Bf L O) .normal (Bf L (cw (vR O%Pm))):=by
   have k:=ae3 L O
   rw [hm] at k
   refine Tr.post (Tr.cut (G9 true) 80 _ 3 (by omega) k ?_) (bq.same rfl rfl)
   rw [ho,EX,qp,decide_eq_true hle];rfl
  refine Tr.Bk 10 (by kernel_rfl) (iR.step hr (iR.leave (stop _ (bP _) ?_) (by simp)))
  have:=Int.emod_lt_of_pos (vR O) g9
  rw [jh (Int.emod_nonneg _ (by have:=g9;omega)) this]
  exact this
 ·have hq:cw (vR O%Pm)=O:=by
   rw [mF,Int.emod_eq_of_lt h0 (by omega),GZ ho]
  rw [hq]
  exact Tr.Bk 10 (by kernel_rfl) (iR.leave (stop O ho (by omega)) (by simp))
def P8 (l:List Int):Bool:=decide (l.length=32)&&(l.all (fun x=>decide (0≤x)&&decide (x≤1125899906842624))&&decide (sB (gD l) 32<dh*dh))
theorem vc {l:List Int}:P8 l=true↔Lk l∧sB (gD l) 32<dh*dh:=by
 unfold P8
 rw [Bool.and_eq_true,Bool.and_eq_true,decide_eq_true_eq,decide_eq_true_eq,List.all_eq_true]
 constructor
 ·rintro ⟨h1,h2,h3⟩
  refine ⟨⟨h1,fun i hi=>?_⟩,h3⟩
  have:=h2 (gD l i) (by unfold gD;rw [List.getD_eq_getElem?_getD,List.getElem?_eq_getElem (by omega)];exact List.getElem_mem _)
  simpa using this
 ·rintro ⟨⟨h1,h2⟩,h3⟩
  refine ⟨h1,fun x hx=>?_,h3⟩
  obtain ⟨i,hi,rfl⟩:=List.getElem_of_mem hx
  have:=h2 i (by omega)
  unfold gD at this
  rw [List.getD_eq_getElem?_getD,List.getElem?_eq_getElem hi] at this
  simpa using this
noncomputable def BH (l:List Int):List Int:=cw (sB (gD l) 32%Pm)
theorem ae5 {l:List Int} (h:P8 l=true):ai Tryz.prog 91 [.agg [.ints .i64 32 l]] [] (.agg [.ints .i64 16 (BH l)]) []:=by
 obtain ⟨hk,hv⟩:=vc.1 h
 have hr:=Nv hk hv
 have l32:∀j,j≤4→aH 32 (dW l j)=dW l j:=fun j hj=>aG (hr j hj).1.len
 have bY:Tr Tryz.prog none 0 (aA 3 (aE Tryz.f91)) (x9 l 0) .normal (x9 (dW l 4) 4):=by
  have key:=Tr.loop (P:=Tryz.prog) (ro:=none) (k:=0) 0 (c:=aA 3 (aE Tryz.f91)) (by kernel_rfl) (fun j:Nat=>x9 (dW l j) j) 4 (s':=x9 (dW l 4) 4) (fun j hj=>?_) ?_
  ·exact key
  ·have k:=xl (dW l j) j
   rw [l32 j (by omega),iw,wrap_i64 _ (by omega) (by omega),show (j:Int)+1=((j+1:Nat):Int) by omega] at k
   refine Tr.post (Tr.cut (dH true) 80 _ 3 (by omega) k ?_) (bq.same rfl rfl)
   rw [decide_eq_true (by omega)];rfl
  ·have k:=Sw (dW l 4) 4
   exact Tr.post (Tr.cut (dH false) 80 _ 3 (by omega) k rfl) (bq.same rfl rfl)
 -- the last number of 16 parts
 obtain ⟨k4,v4⟩:=hr 4 (by omega)
 obtain ⟨k3,v3⟩:=hr 3 (by omega)
 have h0:0≤sB (gD l) 32:=by
  have:∀n,n≤32→0≤sB (gD l) n:=by
   intro n
   induction n with
   |zero=>intro _;simp [sB]
   |succ n ih=>
    intro hn
    rw [sB]
    have h1:=ih (by omega)
    have h2:=Int.mul_nonneg (hk.b n (by omega)).1 (show 0≤(65536:Int)^n from Int.pow_nonneg (by omega))
    omega
  exact this 32 (Nat.le_refl _)
 obtain ⟨_,_,b3,b4⟩:=VG h0 hv
 obtain ⟨_,_,z4,_⟩:=G8 k3 (by rw [v3];have hB:dh=115792089237316195423570985008687907853269984665640564039457584007913129639936:=rfl;rw [hB] at b3 ⊢;omega)
 have e16:sB (gD (dW l 4)) 16=qj (sB (gD l) 32) 4:=by
  have:=fe (gD (dW l 4)) 16 16
  rw [mB (f:=fun i=>gD (dW l 4) (16+i)) 16 (fun i hi=>z4 (16+i) (by omega) (by omega)),Int.mul_zero,Int.add_zero] at this
  rw [←this]
  exact v4
 obtain ⟨o1,t,o2,o3,o4⟩:=Ar (L:=dW l 4) (fun i hi=>k4.b i (by omega)) (by rw [e16];exact b4.2)
 have hmod:vR (xk (dW l 4))%Pm=sB (gD l) 32%Pm:=by
  rw [kE o2,e16]
  show rv (rv (rv (rv (sB (gD l) 32))))%Pm=_
  rw [Aq,Aq,Aq,Aq]
 have hw:=Nw (L:=dW l 4) o1 o4
 rw [hmod] at hw
 have ko:=YV (dW l 4)
 rw [l32 4 (by omega)] at ko
 refine ai.cu An 60 13 0 Tryz.func91 (by simp) rfl (fun s' x hh=>?_) (s:=Bf (dW l 4) (BH l)) (p:=true) (by kernel_rfl) rfl rfl rfl
 refine bf.items An 60 3 _ 3 (by simp) (Ao l) rfl (by decide) ?_
 refine bf.item 3 (by decide) bY ?_
 refine bf.items An 80 8 _ 3 (by simp) ko rfl (by decide) ?_
 rw [List.drop_drop]
 exact bf.item 12 (by decide) hw hh
noncomputable def rH:List SV→Option (SV×List Blk×Bool)
 | [.agg [.ints .i64 32 l]]=>some (.agg [.ints .i64 16 (BH l)],[],P8 l)
 |_=>none
noncomputable def fC:Entry Tryz.prog:=.val 91 _ Tryz.func91 (by decide) rfl false 0 rH fun vs v new e=>by
 unfold rH at e
 split at e
 ·simp only [Option.some.injEq,Prod.mk.injEq] at e
  obtain ⟨rfl,rfl,h⟩:=e
  exact ae5 h
 ·cases e
end Go.Proofs.YtibfpjeeanppjaaGreat.Re
