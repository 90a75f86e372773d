/- This file proves contracts of the reference's numbers: prime, atLeast, minus. Conditions: parts within 16 bits. -/
import Derived.Test.YtibfpjeeanppjaaGreatUMf
set_option linter.all false
set_option maxRecDepth 100000
namespace Go.Proofs.YtibfpjeeanppjaaGreat.Re
open Go Go.Sy Fe
def sB (f:Nat→Int):Nat→Int
 |0=>0
 |n+1=>sB f n+f n*65536^n
theorem dI {f g:Nat→Int}:∀(n:Nat),(∀i,i<n→f i=g i)→sB f n=sB g n
 |0,_=>rfl
 |n+1,h=>by rw [sB,sB,dI n fun i hi=>h i (by omega),h n (by omega)]
theorem yt (f g:Nat→Int):∀n:Nat,sB (fun i=>f i+g i) n=sB f n+sB g n
 |0=>rfl
 |n+1=>by rw [sB,sB,sB,yt f g n,Int.add_mul];omega
theorem CL (c:Int) (f:Nat→Int):∀n:Nat,sB (fun i=>c*f i) n=c*sB f n
 |0=>by simp [sB]
 |n+1=>by rw [sB,sB,CL c f n,Int.mul_add,Int.mul_assoc]
theorem lD {f:Nat→Int}:∀(n:Nat),(∀i,i<n→f i=0)→sB f n=0
 |0,_=>rfl
 |n+1,h=>by rw [sB,lD n fun i hi=>h i (by omega),h n (by omega)];simp
theorem eM (f:Nat→Int) (a:Nat):∀n:Nat,sB f (a+n)=sB f a+65536^a*sB (fun i=>f (a+i)) n
 |0=>by simp [sB]
 |n+1=>by
  rw [←Nat.add_assoc,sB,sB,eM f a n,Int.mul_add,Int.pow_add]
  have:f (a+n)*(65536^a*65536^n)=65536^a*(f (a+n)*65536^n):=by rw [←Int.mul_assoc,Int.mul_comm (f (a+n)),Int.mul_assoc]
  omega
theorem fZ {f:Nat→Int}:∀(n:Nat),(∀i,i<n→0≤f i∧f i<65536)→0≤sB f n∧sB f n<65536^n
 |0,_=>by simp [sB]
 |n+1,h=>by
  have ih:=fZ n fun i hi=>h i (by omega)
  have hn:=h n (by omega)
  have hp:(0:Int)<65536^n:=Int.pow_pos (by omega)
  rw [sB,Int.pow_succ]
  have h1:0≤f n*65536^n:=Int.mul_nonneg hn.1 (by omega)
  have h2:f n*65536^n≤65535*65536^n:=Int.mul_le_mul_of_nonneg_right (by omega) (by omega)
  omega
theorem qn {f:Nat→Int}:∀(n i:Nat),i<n→(∀i,i<n→0≤f i∧f i<65536)→f i=sB f n/65536^i%65536
 |0,i,h,_=>by omega
 |n+1,i,h,hf=>by
  have hp:(0:Int)<65536^n:=Int.pow_pos (by omega)
  have hr:=fZ n fun i hi=>hf i (by omega)
  rw [sB]
  by_cases hi:i=n
  ·subst hi
   rw [Int.add_mul_ediv_right _ _ (by omega),Int.ediv_eq_zero_of_lt hr.1 hr.2,Int.zero_add]
   have:=hf i (by omega)
   omega
  ·rw [qn n i (by omega) fun i hi=>hf i (by omega)]
   have hq:(65536:Int)^n=65536^i*(65536*65536^(n-i-1)):=by
    rw [←Int.pow_succ', ←Int.pow_add];congr 1;omega
   have El:(65536:Int)^i≠0:=by have:(0:Int)<65536^i:=Int.pow_pos (by omega);omega
   rw [hq,show f n*(65536^i*(65536*65536^(n-i-1)))=65536^i*(f n*(65536*65536^(n-i-1))) by rw [←Int.mul_assoc,Int.mul_comm (f n),Int.mul_assoc],
    Int.add_mul_ediv_left _ _ El,show f n*(65536*65536^(n-i-1))=65536*(f n*65536^(n-i-1)) by rw [←Int.mul_assoc,Int.mul_comm (f n),Int.mul_assoc],Int.add_mul_emod_self_left]
theorem S9 {f g:Nat→Int} {n m:Nat} (hm:m<n) (hf:∀i,i<n→0≤f i∧f i<65536) (hg:∀i,i<n→0≤g i∧g i<65536) (he:∀i,m<i→i<n→f i=g i) (hl:f m<g m):sB f n<sB g n:=by
 have key:∀k:Nat,m<k→k≤n→sB f k<sB g k:=by
  intro k
  induction k with
  |zero=>intro h;omega
  |succ k ih=>
   intro h1 h2
   rw [sB,sB]
   by_cases hk:k=m
   ·subst hk
    have r1:=fZ k fun i hi=>hf i (by omega)
    have r2:=fZ k fun i hi=>hg i (by omega)
    have hp:(0:Int)<65536^k:=Int.pow_pos (by omega)
    have:f k*65536^k+65536^k≤g k*65536^k:=by
     have:=Int.mul_le_mul_of_nonneg_right (show f k+1≤g k by omega) (show 0≤(65536:Int)^k by omega)
     rw [Int.add_mul,Int.one_mul] at this
     exact this
    omega
   ·have:=ih (by omega) (by omega)
    rw [he k (by omega) (by omega)]
    omega
 exact key n hm (Nat.le_refl _)
def gD (l:List Int):Nat→Int:=fun i=>l.getD i 0
def vR (l:List Int):Int:=sB (gD l) 16
def part (x:Int):Bool:=decide (0≤x)&&decide (x<65536)
theorem AW {x:Int}:part x=true↔0≤x∧x<65536:=by simp [part]
def cD (l:List Int):Bool:=decide (l.length=16)&&l.all part
theorem ct {l:List Int}:cD l=true↔l.length=16∧∀i,i<16→0≤l.getD i 0∧l.getD i 0<65536:=by
 unfold cD
 rw [Bool.and_eq_true,decide_eq_true_eq,List.all_eq_true]
 constructor
 ·rintro ⟨h1,h2⟩
  refine ⟨h1,fun i hi=>AW.1 (h2 _ ?_)⟩
  rw [List.getD_eq_getElem?_getD,List.getElem?_eq_getElem (by omega)]
  exact List.getElem_mem _
 ·rintro ⟨h1,h2⟩
  refine ⟨h1,fun x hx=>?_⟩
  obtain ⟨i,hi,rfl⟩:=List.getElem_of_mem hx
  have:=h2 i (by omega)
  rw [List.getD_eq_getElem?_getD,List.getElem?_eq_getElem hi] at this
  exact AW.2 this
def oZ (n:Int):List Int:=(List.range 16).map fun i=>n/65536^i%65536
theorem vj (n:Int) {i:Nat} (h:i<16):(oZ n).getD i 0=n/65536^i%65536:=by
 unfold oZ
 rw [List.getD_eq_getElem?_getD,List.getElem?_map,List.getElem?_range h];rfl
theorem Qe (n:Int):cD (oZ n)=true:=ct.2 ⟨by simp [oZ],fun i hi=>by rw [vj n hi];omega⟩
theorem EE {l:List Int} (h:cD l=true):oZ (vR l)=l:=by
 obtain ⟨h1,h2⟩:=ct.1 h
 apply List.ext_getElem?
 intro i
 by_cases hi:i<16
 ·have e1:(oZ (vR l))[i]? =some ((oZ (vR l)).getD i 0):=by rw [List.getD_eq_getElem?_getD,List.getElem?_eq_getElem (by simp [oZ];omega)];rfl
  have e2:l[i]? =some (l.getD i 0):=by rw [List.getD_eq_getElem?_getD,List.getElem?_eq_getElem (by omega)];rfl
  rw [e1,e2,vj _ hi]
  congr 1
  exact (qn 16 i hi h2).symm
 ·rw [List.getElem?_eq_none (by simp [oZ];omega),List.getElem?_eq_none (by omega)]
theorem CM (n:Int):∀k:Nat,0≤n→sB (fun i=>n/65536^i%65536) k=n%65536^k
 |0,h=>by simp [sB]
 |k+1,h=>by
  rw [sB,CM n k h,Int.pow_succ]
  have hp:(0:Int)<65536^k:=Int.pow_pos (by omega)
  have h1:=Int.mul_ediv_add_emod n (65536^k)
  have h2:=Int.mul_ediv_add_emod (n/65536^k) 65536
  have h3:n=65536^k*65536*(n/65536^k/65536)+(n%65536^k+n/65536^k%65536*65536^k):=by
   conv=>lhs;rw [←h1, ←h2]
   rw [Int.mul_add, ←Int.mul_assoc,Int.mul_comm (n/65536^k%65536)]
   generalize 65536^k*(n/65536^k%65536)=z
   rw [Int.add_assoc,Int.add_comm z]
  have r1:=Int.emod_nonneg n (show (65536:Int)^k≠0 by omega)
  have r2:=Int.emod_lt_of_pos n hp
  have r3:0≤n/65536^k%65536∧n/65536^k%65536<65536:=by omega
  have r4:n/65536^k%65536*65536^k≤65535*65536^k:=Int.mul_le_mul_of_nonneg_right (by omega) (by omega)
  have r5:0≤n/65536^k%65536*65536^k:=Int.mul_nonneg r3.1 (by omega)
  have h4:n%(65536^k*65536)=_:=congrArg (· %((65536:Int)^k*65536)) h3
  have h5:∀m q r:Int,0≤r→r<m→(m*q+r)%m=r:=fun m q r a b=>by rw [Int.add_comm,Int.add_mul_emod_self_left];exact Int.emod_eq_of_lt a b
  exact (h4.trans (h5 _ _ _ (by omega) (by omega))).symm
theorem EF {n:Int} (h0:0≤n) (h1:n<115792089237316195423570985008687907853269984665640564039457584007913129639936):vR (oZ n)=n:=by
 unfold vR
 rw [dI (f:=gD (oZ n)) (g:=fun i=>n/65536^i%65536) 16 fun i hi=>vj n hi,CM n 16 h0]
 exact Int.emod_eq_of_lt h0 (by rw [show (65536:Int)^16=115792089237316195423570985008687907853269984665640564039457584007913129639936 by decide];exact h1)
theorem dJ {l:List Int} (h:cD l=true):0≤vR l∧vR l<115792089237316195423570985008687907853269984665640564039457584007913129639936:=by
 have:=fZ 16 (ct.1 h).2
 rw [show (65536:Int)^16=115792089237316195423570985008687907853269984665640564039457584007913129639936 by decide] at this
 exact this
end Go.Proofs.YtibfpjeeanppjaaGreat.Re
namespace Go.Proofs.YtibfpjeeanppjaaGreat.Re
open Go Go.Sy Fe
def tc:List Int:=[65517,65535,65535,65535,65535,65535,65535,65535,65535,65535,65535,65535,65535,65535,65535,32767]
theorem CN:cD tc=true:=by decide
theorem yu:vR tc=Pm:=by decide
def EG:List SV→Option (SV×List Blk×Bool)
 | []=>some (.agg [.ints .i64 16 tc],[],true)
 |_=>none
noncomputable def yw:Entry Tryz.prog:=.val 127 _ Tryz.func127 (by decide) rfl false 0 EG fun vs v new e=>by
 unfold EG at e
 split at e
 ·cases e
  exact aP lV 20 Tryz.func127 (p:=true) (by kernel_rfl) rfl rfl
 ·cases e
def EH (i:Int) (o:Bool):Bool:=aa (aa o (cK i 16)) (decide (0+i.toNat<16))
theorem jO {i:Int} {o:Bool} (h0:0≤i) (h1:i<16) (ho:o=true):EH i o=true:=by
 subst ho;unfold EH cK
 rw [decide_eq_true h0,decide_eq_true (show i<(16:Nat) by omega),decide_eq_true (show 0+i.toNat<16 by omega)];rfl
noncomputable def R9 (x y:Bool):bK:=mk (P:=Tryz.prog) [] [] fun i=>if i=7 then some x else if i=16 then some y else none
theorem mo (x y:Bool):ag Tryz.prog (R9 x y):=ai _ aF.nil _ _
noncomputable def Yv:Code:=inner (inner (ak 2 (aH Tryz.f129)))
noncomputable def Wu (a b:List Int):List Blk:=[.b [.ints .i64 16 a],.b [.ints .i64 16 b]]
noncomputable def Bp (a b:List Int) (i:Int):St:=⟨slotsOf 24 [(2,.ptr 0 0 0),(3,.ptr 1 0 0),(5,.int .i64 i)],Wu a b,true⟩
section
variable (a b:List Int) (i:Int)
theorem abH:(exec Tryz.prog (R9 true true) 40 0 Yv (Bp a b i)).bind (fun r=>(r.2.cut [4] 2).map fun q=>(r.1,q))=
  some (.ret,⟨slotsOf 24 [(4,.bool (decide (a.getD (0+i.toNat) 0>b.getD (0+i.toNat) 0)))],Wu a b,EH i (EH i (aa (EH i (EH i (aa true (decide (i≥0))))) (a.getD (0+i.toNat) 0 != b.getD (0+i.toNat) 0)))⟩):=by kernel_rfl
theorem abI:(exec Tryz.prog (R9 true false) 40 0 Yv (Bp a b i)).bind (fun r=>(r.2.cut [2,3,5] 2).map fun q=>(r.1,q))=
  some (.normal,⟨(Bp a b (IntKind.i64.wrap (i-1))).t,Wu a b,aa (EH i (EH i (aa true (decide (i≥0))))) (!(a.getD (0+i.toNat) 0 != b.getD (0+i.toNat) 0))⟩):=by kernel_rfl
theorem Wv:(exec Tryz.prog (R9 false false) 40 0 Yv (Bp a b i)).bind (fun r=>(r.2.cut [2,3,5] 2).map fun q=>(r.1,q))=
  some (.exit 0,⟨(Bp a b i).t,Wu a b,aa true (!decide (i≥0))⟩):=by kernel_rfl
theorem EI:(az Tryz.prog (R9 true true) 40 0 2 (atoms (aH Tryz.f129)) ⟨aT Tryz.f129.ntmps [.agg [.ints .i64 16 a],.agg [.ints .i64 16 b]],[],true⟩).bind (St.cut [2,3,5] 2)=some (Bp a b 15):=by kernel_rfl
end
theorem AX (f g:Nat→Int):∀n:Nat,(∀i,i<n→f i=g i)∨∃m,m<n∧f m≠g m∧∀i,m<i→i<n→f i=g i
 |0=>.inl fun i hi=>by omega
 |n+1=>by
  by_cases h:f n=g n
  ·rcases AX f g n with q|⟨m,h1,h2,h3⟩
   ·exact .inl fun i hi=>by
     by_cases hn:i=n
     ·subst hn;exact h
     ·exact q i (by omega)
   ·exact .inr ⟨m,by omega,h2,fun i h4 h5=>by
     by_cases hn:i=n
     ·subst hn;exact h
     ·exact h3 i h4 (by omega)⟩
  ·exact .inr ⟨n,by omega,h,fun i h4 h5=>by omega⟩
theorem EJ {a b:List Int} {j:Nat} (hj:j<16) (h:a.getD (15-j) 0=b.getD (15-j) 0):Tr Tryz.prog none 0 Yv (Bp a b (15-j)) .normal (Bp a b (15-((j+1:Nat):Int))):=by
 have k:=abI a b (15-j)
 have e1:IntKind.i64.wrap (15-(j:Int)-1)=15-((j+1:Nat):Int):=by rw [wrap_i64 _ (by omega) (by omega)];omega
 have e2:0+(15-(j:Int)).toNat=15-j:=by omega
 rw [e1,e2] at k
 refine Tr.post (Tr.cut (mo true false) 40 _ 2 (by omega) k ?_) (aU.same rfl rfl)
 rw [au]
 refine ⟨jO (by omega) (by omega) (jO (by omega) (by omega) (by rw [decide_eq_true (by omega)];rfl)),?_⟩
 rw [h];simp
theorem abJ {a b:List Int} (ha:cD a=true) (hb:cD b=true):aj Tryz.prog 129 [.agg [.ints .i64 16 a],.agg [.ints .i64 16 b]] [] (.bool (decide (vR b≤vR a))) []:=by
 have Yo:=(ct.1 ha).2
 have hb':=(ct.1 hb).2
 rcases AX (gD a) (gD b) 16 with hall|⟨m,hm,hne,hab⟩
 ·have hv:vR a=vR b:=dI 16 hall
  rw [decide_eq_true (show vR b≤vR a by omega)]
  have bS:Tr Tryz.prog none 0 (ak 2 (aH Tryz.f129)) (Bp a b 15) .normal (Bp a b (-1)):=by
   have key:=Tr.loop (P:=Tryz.prog) (ro:=none) (k:=0) 0 (c:=ak 2 (aH Tryz.f129)) (by kernel_rfl) (fun j:Nat=>Bp a b (15-j)) 16 (s':=Bp a b (-1)) (fun j hj=>?_) ?_
   ·exact key
   ·have q:=hall (15-j) (by omega)
    exact EJ hj q
   ·have k:=Wv a b (-1)
    exact Tr.post (Tr.cut (mo false false) 40 _ 2 (by omega) k rfl) (aU.same rfl rfl)
  refine aj.cg (mo true true) 40 3 0 Tryz.func129 (by simp) rfl (fun s' x h=>?_) (s:=Bp a b (-1)) (p:=true) (by kernel_rfl) rfl rfl rfl
  refine aG.items (mo true true) 40 2 _ 2 (by simp) (EI a b) rfl (by decide) ?_
  exact aG.item 2 (by decide) bS h
 ·have hv:decide (vR b≤vR a)=decide (a.getD m 0>b.getD m 0):=by
   rcases Int.lt_or_gt_of_ne hne with h|h
   ·have h1:vR a<vR b:=S9 (f:=gD a) (g:=gD b) hm Yo hb' hab h
    have h':a.getD m 0<b.getD m 0:=h
    rw [decide_eq_false (by omega),decide_eq_false (by omega)]
   ·have h1:vR b<vR a:=S9 (f:=gD b) (g:=gD a) hm hb' Yo (fun i h1 h2=>(hab i h1 h2).symm) h
    have h':b.getD m 0<a.getD m 0:=h
    rw [decide_eq_true (by omega),decide_eq_true (by omega)]
  rw [hv]
  have Lf:Tr Tryz.prog none 0 Yv (Bp a b (15-((15-m:Nat):Int))) .ret ⟨slotsOf 24 [(4,.bool (decide (a.getD m 0>b.getD m 0)))],Wu a b,true⟩:=by
   have k:=abH a b (15-((15-m:Nat):Int))
   have e2:0+((15:Int)-((15-m:Nat):Int)).toNat=m:=by omega
   rw [e2] at k
   refine Tr.post (Tr.cut (mo true true) 40 _ 2 (by omega) k ?_) (aU.same rfl rfl)
   refine jO (by omega) (by omega) (jO (by omega) (by omega) ?_)
   rw [au]
   refine ⟨jO (by omega) (by omega) (jO (by omega) (by omega) (by rw [decide_eq_true (by omega)];rfl)),?_⟩
   exact bne_iff_ne.2 hne
  have bS:dy Tryz.prog none 0 Yv (Bp a b 15) .ret ⟨slotsOf 24 [(4,.bool (decide (a.getD m 0>b.getD m 0)))],Wu a b,true⟩:=
   by
    refine dy.for (by simp) (fun j:Nat=>Bp a b (15-j)) (15-m) (fun j hj=>?_) Lf
    have q:=hab (15-j) (by omega) (by omega)
    exact EJ (by omega) q
  refine (aj.mk (vs:=[.bool (decide (a.getD m 0>b.getD m 0))]) (h:=[]) Tryz.func129 rfl (x:=.ret) (s:=⟨slotsOf 24 [(4,.bool (decide (a.getD m 0>b.getD m 0)))],Wu a b,true⟩) ?_ (.inl rfl) (by kernel_rfl)).post (aU.fN (n:=0) (by simp) (by rfl))
  refine aG.items (mo true true) 40 2 _ 2 (by simp) (EI a b) rfl (by decide) ?_
  exact aG.leave 2 (by decide) (by simp) (Tr.sU 0 (by kernel_rfl) bS)
noncomputable def abK:List SV→Option (SV×List Blk×Bool)
 | [.agg [.ints .i64 16 a],.agg [.ints .i64 16 b]]=>some (.bool (decide (vR b≤vR a)),[],cD a&&cD b)
 |_=>none
noncomputable def AY:Entry Tryz.prog:=.val 129 _ Tryz.func129 (by decide) rfl false 0 abK fun vs v new e=>by
 unfold abK at e
 split at e
 ·simp only [Option.some.injEq,Prod.mk.injEq,Bool.and_eq_true] at e
  obtain ⟨rfl,rfl,ha,hb⟩:=e
  exact abJ ha hb
 ·cases e
def bw (a b:List Int):Nat→Int
 |0=>0
 |j+1=>if a.getD j 0-b.getD j 0-bw a b j<0 then 1 else 0
def Ny (a b:List Int) (j:Nat):Int:=a.getD j 0-b.getD j 0-bw a b j+65536*bw a b (j+1)
def sM (a b:List Int):Nat→List Int
 |0=>a
 |j+1=>(sM a b j).set j (Ny a b j)
theorem lE (a b:List Int):∀j,(sM a b j).length=a.length
 |0=>rfl
 |j+1=>by rw [sM,List.length_set,lE a b j]
theorem tf (a b:List Int):∀(j i:Nat),i<a.length→(sM a b j).getD i 0=if i<j then Ny a b i else a.getD i 0
 |0,i,_=>rfl
 |j+1,i,h=>by
  rw [sM,List.getD_eq_getElem?_getD]
  by_cases hij:j=i
  ·subst hij
   rw [List.getElem?_set_self (by rw [lE];exact h),if_pos (by omega)];rfl
  ·rw [List.getElem?_set_ne hij, ←List.getD_eq_getElem?_getD,tf a b j i h]
   by_cases h2:i<j
   ·rw [if_pos h2,if_pos (by omega)]
   ·rw [if_neg h2,if_neg (by omega)]
theorem CO (a b:List Int):∀j,bw a b j=0∨bw a b j=1
 |0=>.inl rfl
 |j+1=>by rw [bw];split
          ·exact .inr rfl
          ·exact .inl rfl
theorem LX {a b:List Int} (ha:cD a=true) (hb:cD b=true) {j:Nat} (hj:j<16):0≤Ny a b j∧Ny a b j<65536:=by
 have h1:=(ct.1 ha).2 j hj
 have h2:=(ct.1 hb).2 j hj
 have h3:=CO a b j
 unfold Ny
 rw [bw]
 split<;>omega
theorem EK (a b:List Int):∀n,sB (Ny a b) n=sB (gD a) n-sB (gD b) n+65536^n*bw a b n
 |0=>by simp [sB,bw]
 |n+1=>by
  rw [sB,sB,sB,EK a b n]
  have e:Ny a b n=gD a n-gD b n-bw a b n+65536*bw a b (n+1):=rfl
  rw [e,Int.pow_succ]
  generalize gD a n=x
  generalize gD b n=y
  generalize bw a b n=u
  generalize bw a b (n+1)=v
  generalize (65536:Int)^n=P
  grind
theorem Ww {a b:List Int} (ha:cD a=true) (hb:cD b=true) (hle:vR b≤vR a):sM a b 16=oZ (vR a-vR b):=by
 have hl:(sM a b 16).length=16:=by rw [lE,(ct.1 ha).1]
 have hla:=(ct.1 ha).1
 have hok:cD (sM a b 16)=true:=ct.2 ⟨hl,fun i hi=>by rw [tf a b 16 i (by omega),if_pos hi];exact LX ha hb hi⟩
 have hs:=EK a b 16
 have hv:vR (sM a b 16)=sB (Ny a b) 16:=dI 16 fun i hi=>by show (sM a b 16).getD i 0=_;rw [tf a b 16 i (by omega),if_pos hi]
 have r:=dJ hok
 have r1:=dJ ha
 have r2:=dJ hb
 have hbw:=CO a b 16
 have hp:(65536:Int)^16=115792089237316195423570985008687907853269984665640564039457584007913129639936:=by decide
 rw [hp] at hs
 have hs':vR (sM a b 16)=vR a-vR b+115792089237316195423570985008687907853269984665640564039457584007913129639936*bw a b 16:=by rw [hv];exact hs
 have h0:vR (sM a b 16)=vR a-vR b:=by rcases hbw with h|h<;>rw [h] at hs'<;>omega
 rw [←h0,EE hok]
noncomputable def mnC (x y:Bool):bK:=mk (P:=Tryz.prog) [] [] fun i=>if i=9 then some x else if i=22 then some y else none
theorem vk (x y:Bool):ag Tryz.prog (mnC x y):=ai _ aF.nil _ _
noncomputable def mnB:Code:=inner (inner (ak 3 (aH Tryz.f126)))
def Hh:List Int:=List.replicate 16 0
noncomputable def Ta (a b:List Int):List Blk:=[.b [.ints .i64 16 a],.b [.ints .i64 16 b],.b [.ints .i64 16 Hh]]
noncomputable def EL (a b:List Int) (c:Int) (i:Int):St:=⟨slotsOf 29 [(2,.ptr 0 0 0),(3,.ptr 1 0 0),(4,.ptr 2 0 0),(5,.int .i64 c),(6,.int .i64 i)],Ta a b,true⟩
def Yw (a b:List Int) (c i:Int):Int:=IntKind.i64.wrap (IntKind.i64.wrap (a.getD (0+i.toNat) 0-b.getD (0+i.toNat) 0)-c)
section
variable (a b:List Int) (c i:Int)
theorem Wx:(exec Tryz.prog (mnC true true) 40 0 mnB (EL a b c i)).bind (fun r=>(r.2.cut [2,3,4,5,6] 3).map fun q=>(r.1,q))=
  some (.normal,⟨(EL a b 1 (IntKind.i64.wrap (i+1))).t,Ta (a.set (0+i.toNat) (IntKind.i64.wrap (Yw a b c i+65536))) b,
   aa (aa (aa (EH i (EH i (aa true (decide (i<16))))) (decide (Yw a b c i<0))) (cK i 16)) (decide (0+i.toNat<16)&&decide (a.length=16))⟩):=by kernel_rfl
theorem Wy:(exec Tryz.prog (mnC true false) 40 0 mnB (EL a b c i)).bind (fun r=>(r.2.cut [2,3,4,5,6] 3).map fun q=>(r.1,q))=
  some (.normal,⟨(EL a b 0 (IntKind.i64.wrap (i+1))).t,Ta (a.set (0+i.toNat) (Yw a b c i)) b,
   aa (aa (aa (EH i (EH i (aa true (decide (i<16))))) (!decide (Yw a b c i<0))) (cK i 16)) (decide (0+i.toNat<16)&&decide (a.length=16))⟩):=by kernel_rfl
theorem Wz:(exec Tryz.prog (mnC false false) 40 0 mnB (EL a b c i)).bind (fun r=>(r.2.cut [2,3,4,5,6] 3).map fun q=>(r.1,q))=
  some (.exit 0,⟨(EL a b c i).t,Ta a b,aa true (!decide (i<16))⟩):=by kernel_rfl
theorem Qf:(az Tryz.prog (mnC true true) 40 0 3 (atoms (aH Tryz.f126)) ⟨aT Tryz.f126.ntmps [.agg [.ints .i64 16 a],.agg [.ints .i64 16 b]],[],true⟩).bind (St.cut [2,3,4,5,6] 3)=some (EL a b 0 0):=by kernel_rfl
end
noncomputable def Bq (a b:List Int):List Int:=gz (oZ (vR a-vR b))
theorem Qg {a b:List Int} (ha:cD a=true) (hb:cD b=true) {j:Nat} (hj:j<16):Tr Tryz.prog none 0 mnB (EL (sM a b j) b (bw a b j) j) .normal (EL (sM a b (j+1)) b (bw a b (j+1)) ((j+1:Nat):Int)):=by
 have hla:=(ct.1 ha).1
 have p1:=(ct.1 ha).2 j hj
 have p2:=(ct.1 hb).2 j hj
 have p3:=CO a b j
 have hT:Yw (sM a b j) b (bw a b j) j=a.getD j 0-b.getD j 0-bw a b j:=by
  unfold Yw
  rw [show 0+(j:Int).toNat=j by omega,tf a b j j (by omega),if_neg (by omega),wrap_i64 (a.getD j 0-b.getD j 0) (by omega) (by omega),wrap_i64 _ (by omega) (by omega)]
 have e1:IntKind.i64.wrap ((j:Int)+1)=((j+1:Nat):Int):=by rw [wrap_i64 _ (by omega) (by omega)];omega
 have e2:0+(j:Int).toNat=j:=by omega
 have hlen:(sM a b j).length=16:=by rw [lE,hla]
 have o1:EH j (EH j (aa true (decide ((j:Int)<16))))=true:=jO (by omega) (by omega) (jO (by omega) (by omega) (by rw [decide_eq_true (by omega)];rfl))
 have o2:cK (j:Int) 16=true:=by unfold cK;rw [decide_eq_true (by omega),decide_eq_true (by omega)];rfl
 by_cases hneg:a.getD j 0-b.getD j 0-bw a b j<0
 ·have k:=Wx (sM a b j) b (bw a b j) j
  rw [hT,e1,e2] at k
  refine Tr.post (Tr.cut (vk true true) 40 _ 3 (by omega) k ?_) (aU.same ?_ ?_)
  ·rw [o1,o2,hlen,decide_eq_true hneg,decide_eq_true (show j<16 from hj)];rfl
  ·rw [show bw a b (j+1)=1 by rw [bw,if_pos hneg]];rfl
  ·show Ta _ _=Ta _ _
   rw [sM,Ny,bw,if_pos hneg,wrap_i64 _ (by omega) (by omega)]
   rfl
 ·have k:=Wy (sM a b j) b (bw a b j) j
  rw [hT,e1,e2] at k
  refine Tr.post (Tr.cut (vk true false) 40 _ 3 (by omega) k ?_) (aU.same ?_ ?_)
  ·rw [o1,o2,hlen,decide_eq_false hneg,decide_eq_true (show j<16 from hj)];rfl
  ·rw [show bw a b (j+1)=0 by rw [bw,if_neg hneg]];rfl
  ·show Ta _ _=Ta _ _
   rw [sM,Ny,bw,if_neg hneg]
   rw [Int.mul_zero,Int.add_zero]
theorem abM {a b:List Int} (ha:cD a=true) (hb:cD b=true) (hle:vR b≤vR a):aj Tryz.prog 126 [.agg [.ints .i64 16 a],.agg [.ints .i64 16 b]] [] (.agg [.ints .i64 16 (Bq a b)]) []:=by
 rw [Bq,aq, ←Ww ha hb hle]
 have bS:Tr Tryz.prog none 0 (ak 3 (aH Tryz.f126)) (EL a b 0 0) .normal (EL (sM a b 16) b (bw a b 16) 16):=by
  have key:=Tr.loop (P:=Tryz.prog) (ro:=none) (k:=0) 0 (c:=ak 3 (aH Tryz.f126)) (by kernel_rfl) (fun j:Nat=>EL (sM a b j) b (bw a b j) j) 16 (s':=EL (sM a b 16) b (bw a b 16) 16) (fun j hj=>?_) ?_
  ·exact key
  ·exact Qg ha hb hj
  ·have k:=Wz (sM a b 16) b (bw a b 16) 16
   exact Tr.post (Tr.cut (vk false false) 40 _ 3 (by omega) k rfl) (aU.same rfl rfl)
 refine aj.cg (vk true true) 40 4 0 Tryz.func126 (by simp) rfl (fun s' x h=>?_) (s:=EL (sM a b 16) b (bw a b 16) 16) (p:=true) (by kernel_rfl) rfl rfl rfl
 refine aG.items (vk true true) 40 3 _ 3 (by simp) (Qf a b) rfl (by decide) ?_
 exact aG.item 3 (by decide) bS h
noncomputable def abN:List SV→Option (SV×List Blk×Bool)
 | [.agg [.ints .i64 16 a],.agg [.ints .i64 16 b]]=>some (.agg [.ints .i64 16 (Bq a b)],[],cD a&&cD b&&decide (vR b≤vR a))
 |_=>none
noncomputable def yx:Entry Tryz.prog:=.val 126 _ Tryz.func126 (by decide) rfl false 0 abN fun vs v new e=>by
 unfold abN at e
 split at e
 ·simp only [Option.some.injEq,Prod.mk.injEq,Bool.and_eq_true,decide_eq_true_eq] at e
  obtain ⟨rfl,rfl,⟨ha,hb⟩,hc⟩:=e
  exact abM ha hb hc
 ·cases e
end Go.Proofs.YtibfpjeeanppjaaGreat.Re
namespace Go.Proofs.YtibfpjeeanppjaaGreat.Re
open Go Go.Sy Fe
abbrev iw (n:Int):Int:=IntKind.i64.wrap n
def nC (f:Nat→Int):Nat→Int
 |0=>iw (f 0+0)
 |i+1=>iw (f (i+1)+iw ((nC f i).tdiv 65536))
def dC (f:Nat→Int) (i:Nat):Int:=(nC f i).tmod 65536
def lF (L:List Int):List Int:=(List.range 16).map (fun i=>iw (dC (gD L) i+iw (38*dC (gD L) (i+16))))++List.replicate 16 0
noncomputable def WA (L O:List Int):List Blk:=[.b [.ints .i64 32 L],.b [.ints .i64 16 Hh],.b [.ints .i64 16 O]]
noncomputable def v9 (L:List Int) (i:Int):St:=⟨slotsOf 103 [(1,.ptr 0 0 0),(2,.ptr 1 0 0),(3,.ptr 2 0 0),(4,.int .i64 i)],WA L Hh,true⟩
noncomputable def yy (x:Bool):bK:=mk (P:=Tryz.prog) [yw,AY,yx] [] fun i=>if i=16 then some x else if i=98 then some x else none
theorem eu (x:Bool):ag Tryz.prog (yy x):=ai _ aF.nil _ _
noncomputable def WB:bK:=mk (P:=Tryz.prog) [] []
theorem yz:ag Tryz.prog WB:=ai _ aF.nil _ _
noncomputable def smB:Code:=inner (inner (ak 3 (aH Tryz.f91)))
def mC (f:Nat→Int):Nat→Int
 |0=>iw (dC f 0+iw (19*iw ((dC f 15).tdiv 32768)))
 |i+1=>iw ((if i=14 then (dC f 15).tmod 32768 else dC f (i+1))+iw ((mC f i).tdiv 65536))
def vl (L:List Int):List Int:=(List.range 16).map fun i=>(mC (gD L) i).tmod 65536
noncomputable def ze (L O:List Int):St:=⟨slotsOf 103 [(2,.ptr 1 0 0),(3,.ptr 2 0 0)],WA L O,true⟩
noncomputable def Nz:Code:=inner (inner (ak 12 (aH Tryz.f91)))
section
variable (L O:List Int) (i:Int)
theorem vm:(exec Tryz.prog (yy true) 80 0 smB (v9 (aO 32 L) i)).bind (fun r=>(r.2.cut [1,2,3,4] 3).map fun q=>(r.1,q))=
  some (.normal,⟨(v9 L (iw (i+1))).t,WA (lF (aO 32 L)) Hh,aa true (decide (i<4))⟩):=by kernel_rfl
theorem Qh:(exec Tryz.prog (yy false) 80 0 smB (v9 L i)).bind (fun r=>(r.2.cut [1,2,3,4] 3).map fun q=>(r.1,q))=
  some (.exit 0,⟨(v9 L i).t,WA L Hh,aa true (!decide (i<4))⟩):=by kernel_rfl
theorem yA:(az Tryz.prog WB 60 0 3 (atoms (aH Tryz.f91)) ⟨aT Tryz.f91.ntmps [.agg [.ints .i64 32 L]],[],true⟩).bind (St.cut [1,2,3,4] 3)=some (v9 L 0):=by kernel_rfl
theorem WC:(az Tryz.prog WB 80 0 8 ((atoms (aH Tryz.f91)).drop 4) ⟨(v9 L 4).t,WA (aO 32 L) Hh,true⟩).bind (St.cut [2,3] 3)=some (ze (aO 32 L) (vl (aO 32 L))):=by kernel_rfl
end
end Go.Proofs.YtibfpjeeanppjaaGreat.Re
namespace Go.Proofs.YtibfpjeeanppjaaGreat.Re
open Go Go.Sy Fe
def cC (f:Nat→Int):Nat→Int
 |0=>0
 |i+1=>(f i+cC f i)/65536
theorem AZ {f:Nat→Int} {n:Nat} (h:∀i,i<n→0≤f i∧f i≤1125899906842624):∀i,i≤n→0≤cC f i∧cC f i≤1125899906842624
 |0,_=>by simp [cC]
 |i+1,hi=>by
  have:=h i (by omega)
  have:=AZ h i (by omega)
  rw [cC];omega
theorem w5 (f:Nat→Int):∀n:Nat,sB f n=sB (fun i=>(f i+cC f i)%65536) n+65536^n*cC f n
 |0=>by simp [sB,cC]
 |n+1=>by
  rw [sB,sB,w5 f n,cC,Int.pow_succ]
  have e:f n=(f n+cC f n)%65536+65536*((f n+cC f n)/65536)-cC f n:=by omega
  generalize (f n+cC f n)%65536=x at*
  generalize (f n+cC f n)/65536=y at*
  generalize cC f n=z at*
  generalize (65536:Int)^n=P
  rw [e]
  grind
theorem CP {f:Nat→Int} {n:Nat} (h:∀i,i<n→0≤f i∧f i≤1125899906842624):∀i,i<n→nC f i=f i+cC f i∧dC f i=(f i+cC f i)%65536:=by
 have key:∀i,i<n→nC f i=f i+cC f i:=by
  intro i
  induction i with
  |zero=>
   intro hi
   have:=h 0 hi
   rw [nC,cC,iw,wrap_i64 _ (by omega) (by omega)]
  |succ i ih=>
   intro hi
   have h0:=h i (by omega)
   have h1:=h (i+1) hi
   have c0:=AZ h i (by omega)
   have c1:=AZ h (i+1) (by omega)
   rw [cC] at c1
   rw [nC,ih (by omega),Int.tdiv_eq_ediv_of_nonneg (by omega),cC,iw,iw,wrap_i64 ((f i+cC f i)/65536) (by omega) (by omega),wrap_i64 _ (by omega) (by omega)]
 intro i hi
 have h0:=h i hi
 have c0:=AZ h i (by omega)
 refine ⟨key i hi,?_⟩
 unfold dC
 rw [key i hi,Int.tmod_eq_emod_of_nonneg (by omega)]
theorem vn {f:Nat→Int} {n:Nat} (h:∀i,i<n→0≤f i∧f i≤1125899906842624) (hv:sB f n<65536^n):sB (dC f) n=sB f n:=by
 have e:=w5 f n
 have hd:sB (dC f) n=sB (fun i=>(f i+cC f i)%65536) n:=dI n fun i hi=>(CP h i hi).2
 have r:=fZ (f:=fun i=>(f i+cC f i)%65536) n fun i hi=>by show 0≤(f i+cC f i)%65536∧_;omega
 have hc:=AZ h n (Nat.le_refl _)
 have hp:(0:Int)<65536^n:=Int.pow_pos (by omega)
 have:cC f n=0:=by
  by_cases h1:1≤cC f n
  ·have:=Int.mul_le_mul_of_nonneg_left h1 (show 0≤(65536:Int)^n by omega)
   omega
  ·omega
 rw [this] at e
 omega
theorem tg {f:Nat→Int} {n:Nat} (h:∀i,i<n→0≤f i∧f i≤1125899906842624):∀i,i<n→0≤dC f i∧dC f i<65536:=fun i hi=>by
 rw [(CP h i hi).2];omega
def c6:Int:=115792089237316195423570985008687907853269984665640564039457584007913129639936
theorem vo:(65536:Int)^16=c6:=by decide
theorem LY:(65536:Int)^32=c6*c6:=by decide
def rv (V:Int):Int:=V%c6+38*(V/c6)
structure Lk (L:List Int):Prop where
 len:L.length=32
 b:∀i,i<32→0≤gD L i∧gD L i≤1125899906842624
theorem th {L:List Int} (h:Lk L) (i:Nat) (hi:i<32):gD (lF L) i=if i<16 then dC (gD L) i+38*dC (gD L) (i+16) else 0:=by
 unfold gD lF
 rw [List.getD_eq_getElem?_getD]
 by_cases yC:i<16
 ·have p1:=tg h.b i (by omega)
  have p2:=tg h.b (i+16) (by omega)
  rw [List.getElem?_append_left (by simpa using yC),List.getElem?_map,List.getElem?_range yC,if_pos yC]
  show iw (dC (gD L) i+iw (38*dC (gD L) (i+16)))=_
  rw [iw,iw,wrap_i64 (38*_) (by omega) (by omega),wrap_i64 _ (by omega) (by omega)]
  rfl
 ·rw [List.getElem?_append_right (by simp;omega),if_neg yC,List.getElem?_replicate,if_pos (by simp;omega)];rfl
theorem EM {L:List Int} (h:Lk L) (hv:sB (gD L) 32<c6*c6):Lk (lF L)∧(∀i,i<32→gD (lF L) i≤2555865)∧(∀i,16≤i→i<32→gD (lF L) i=0)∧sB (gD (lF L)) 32=rv (sB (gD L) 32):=by
 have hp:=tg h.b
 have hb:∀i,i<32→0≤gD (lF L) i∧gD (lF L) i≤2555865:=fun i hi=>by
  rw [th h i hi]
  split
  ·have:=hp i hi
   have:=hp (i+16) (by omega)
   omega
  ·omega
 refine ⟨⟨by simp [lF],fun i hi=>by have:=hb i hi;omega⟩,fun i hi=>(hb i hi).2,fun i h1 hi=>by rw [th h i hi,if_neg (by omega)],?_⟩
 have e0:=vn h.b (by rw [LY];exact hv)
 have e1:sB (dC (gD L)) (16+16)=sB (dC (gD L)) 16+65536^16*sB (fun i=>dC (gD L) (16+i)) 16:=eM _ 16 16
 have e2:sB (gD (lF L)) (16+16)=sB (gD (lF L)) 16+65536^16*sB (fun i=>gD (lF L) (16+i)) 16:=eM _ 16 16
 have e3:sB (fun i=>gD (lF L) (16+i)) 16=0:=lD 16 fun i hi=>by show gD (lF L) (16+i)=0;rw [th h _ (by omega),if_neg (by omega)]
 have e4:sB (gD (lF L)) 16=sB (dC (gD L)) 16+38*sB (fun i=>dC (gD L) (16+i)) 16:=by
  rw [←CL, ←yt]
  refine dI 16 fun i hi=>?_
  rw [th h i (by omega),if_pos hi,Nat.add_comm 16 i]
 have r1:=fZ 16 fun i hi=>hp i (by omega)
 have r2:=fZ (f:=fun i=>dC (gD L) (16+i)) 16 fun i hi=>hp (16+i) (by omega)
 rw [vo] at*
 have hB:c6=115792089237316195423570985008687907853269984665640564039457584007913129639936:=rfl
 unfold rv
 rw [←e0]
 show sB (gD (lF L)) (16+16)=sB (dC (gD L)) (16+16)%c6+38*(sB (dC (gD L)) (16+16)/c6)
 rw [e2,e3,e4,e1]
 generalize sB (dC (gD L)) 16=x at*
 generalize sB (fun i=>dC (gD L) (16+i)) 16=y at*
 rw [hB] at*
 omega
theorem yD (V:Int):rv V%Pm=V%Pm:=by
 have:rv V=V-2*(V/c6)*Pm:=by
  unfold rv
  have hB:c6=115792089237316195423570985008687907853269984665640564039457584007913129639936:=rfl
  rw [kH,hB]
  omega
 exact jW this
def dG (L:List Int):Nat→List Int
 |0=>L
 |j+1=>lF (dG L j)
def o5 (V:Int):Nat→Int
 |0=>V
 |j+1=>rv (o5 V j)
theorem Tb {V:Int} (h0:0≤V) (h1:V<c6*c6):(0≤o5 V 1∧o5 V 1<39*c6)∧(0≤o5 V 2∧o5 V 2<c6+1444)∧(0≤o5 V 3∧o5 V 3<c6)∧(0≤o5 V 4∧o5 V 4<c6):=by
 have hB:c6=115792089237316195423570985008687907853269984665640564039457584007913129639936:=rfl
 have a1:0≤o5 V 1∧o5 V 1<39*c6:=by
  show 0≤rv V∧rv V<39*c6
  unfold rv
  rw [hB] at h1 ⊢
  omega
 have a2:0≤o5 V 2∧o5 V 2<c6+1444:=by
  show 0≤rv (o5 V 1)∧rv (o5 V 1)<c6+1444
  generalize o5 V 1=x at*
  unfold rv
  rw [hB] at a1 ⊢
  omega
 have a3:0≤o5 V 3∧o5 V 3<c6:=by
  show 0≤rv (o5 V 2)∧rv (o5 V 2)<c6
  generalize o5 V 2=x at*
  unfold rv
  rw [hB] at a2 ⊢
  omega
 refine ⟨a1,a2,a3,?_⟩
 show 0≤rv (o5 V 3)∧rv (o5 V 3)<c6
 generalize o5 V 3=x at*
 unfold rv
 rw [hB] at a3 ⊢
 omega
theorem LZ {L:List Int} (h:Lk L) (hv:sB (gD L) 32<c6*c6):∀j,j≤4→Lk (dG L j)∧sB (gD (dG L j)) 32=o5 (sB (gD L) 32) j:=by
 have h0:0≤sB (gD L) 32:=by
  have:∀n,n≤32→0≤sB (gD L) n:=by
   intro n
   induction n with
   |zero=>intro _;simp [sB]
   |succ n ih=>
    intro hn
    rw [sB]
    have h1:=ih (by omega)
    have h2:=Int.mul_nonneg (h.b n (by omega)).1 (show 0≤(65536:Int)^n from Int.pow_nonneg (by omega))
    omega
  exact this 32 (Nat.le_refl _)
 obtain ⟨b1,b2,b3,b4⟩:=Tb h0 hv
 have hB:c6=115792089237316195423570985008687907853269984665640564039457584007913129639936:=rfl
 have step:∀j,Lk (dG L j)∧sB (gD (dG L j)) 32=o5 (sB (gD L) 32) j→o5 (sB (gD L) 32) j<c6*c6→Lk (dG L (j+1))∧sB (gD (dG L (j+1))) 32=o5 (sB (gD L) 32) (j+1):=fun j g hlt=>by
  obtain ⟨k1,_,_,k2⟩:=EM g.1 (by rw [g.2];exact hlt)
  exact ⟨k1,by show sB (gD (lF (dG L j))) 32=rv (o5 (sB (gD L) 32) j);rw [k2,g.2]⟩
 have s0:Lk (dG L 0)∧sB (gD (dG L 0)) 32=o5 (sB (gD L) 32) 0:=⟨h,rfl⟩
 have s1:=step 0 s0 hv
 rw [hB] at b1 b2 b3
 have s2:=step 1 s1 (by rw [hB];omega)
 have s3:=step 2 s2 (by rw [hB];omega)
 have s4:=step 3 s3 (by rw [hB];omega)
 intro j hj
 have:j=0∨j=1∨j=2∨j=3∨j=4:=by omega
 rcases this with rfl|rfl|rfl|rfl|rfl
 ·exact s0
 ·exact s1
 ·exact s2
 ·exact s3
 ·exact s4
end Go.Proofs.YtibfpjeeanppjaaGreat.Re
namespace Go.Proofs.YtibfpjeeanppjaaGreat.Re
open Go Go.Sy Fe
def gO (f:Nat→Int) (i:Nat):Int:=(if i=15 then dC f 15%32768 else dC f i)+(if i=0 then 19*(dC f 15/32768) else 0)
theorem yE {L:List Int} (h:∀i,i<16→0≤gD L i∧gD L i≤1125899906842624) (hv:sB (gD L) 16<c6):
  cD (vl L)=true∧∃t,vR (vl L)=sB (gD L) 16-t*Pm∧0≤vR (vl L)∧vR (vl L)<57896044618658097711785492504343953926634992332820282019728792003956564819987:=by
 have hp:=tg h
 have e0:=vn h (by rw [vo];exact hv)
 have p15:=hp 15 (by omega)
 have p0:=hp 0 (by omega)
 have hg:∀i,i<16→0≤gO (gD L) i∧gO (gD L) i≤1125899906842624:=fun i hi=>by
  have:=hp i hi
  unfold gO
  split<;>split<;>omega
 -- the chain is the one of aiT parts
 have hm:∀i,i<16→mC (gD L) i=gO (gD L) i+cC (gO (gD L)) i:=by
  intro i
  induction i with
  |zero=>
   intro _
   rw [mC,cC,gO,if_neg (by omega),if_pos rfl,Int.tdiv_eq_ediv_of_nonneg p15.1,iw,iw,iw,wrap_i64 (_/32768) (by omega) (by omega),wrap_i64 (19*_) (by omega) (by omega),wrap_i64 _ (by omega) (by omega)]
   omega
  |succ i ih=>
   intro hi
   have c1:=AZ hg (i+1) (by omega)
   have c0:=AZ hg i (by omega)
   have g0:=hg i (by omega)
   have g1:=hg (i+1) hi
   have hsel:(if i=14 then (dC (gD L) 15).tmod 32768 else dC (gD L) (i+1))=gO (gD L) (i+1):=by
    unfold gO
    rw [if_neg (show ¬i+1=0 by omega),Int.add_zero]
    by_cases h14:i=14
    ·subst h14
     rw [if_pos rfl,if_pos rfl,Int.tmod_eq_emod_of_nonneg p15.1]
    ·rw [if_neg h14,if_neg (by omega)]
   rw [cC] at c1
   rw [mC,ih (by omega),hsel,cC,Int.tdiv_eq_ediv_of_nonneg (by omega),iw,iw,wrap_i64 ((gO (gD L) i+cC (gO (gD L)) i)/65536) (by omega) (by omega),wrap_i64 _ (by omega) (by omega)]
 have uV:∀i,i<16→gD (vl L) i=(gO (gD L) i+cC (gO (gD L)) i)%65536:=fun i hi=>by
  unfold gD vl
  rw [List.getD_eq_getElem?_getD,List.getElem?_map,List.getElem?_range hi]
  show (mC (gD L) i).tmod 65536=_
  have c0:=AZ hg i (by omega)
  have g0:=hg i hi
  rw [hm i hi,Int.tmod_eq_emod_of_nonneg (by omega)]
  rfl
 have hok:cD (vl L)=true:=ct.2 ⟨by simp [vl],fun i hi=>by have:=uV i hi;unfold gD at this;rw [this];omega⟩
 -- the sum of the parts
 have hs:sB (gO (gD L)) 16=sB (gD L) 16-(dC (gD L) 15/32768)*Pm:=by
  rw [←e0]
  have s1:sB (gO (gD L)) 16=sB (gO (gD L)) 15+gO (gD L) 15*65536^15:=rfl
  have s2:sB (dC (gD L)) 16=sB (dC (gD L)) 15+dC (gD L) 15*65536^15:=rfl
  have s3:sB (gO (gD L)) 15=sB (dC (gD L)) 15+19*(dC (gD L) 15/32768):=by
   have a1:=eM (gO (gD L)) 1 14
   have a2:=eM (dC (gD L)) 1 14
   have a3:sB (fun i=>gO (gD L) (1+i)) 14=sB (fun i=>dC (gD L) (1+i)) 14:=dI 14 fun i hi=>by
    show gO (gD L) (1+i)=dC (gD L) (1+i)
    unfold gO
    rw [if_neg (by omega),if_neg (by omega),Int.add_zero]
   have a4:sB (gO (gD L)) 1=dC (gD L) 0+19*(dC (gD L) 15/32768):=by simp [sB,gO]
   have a5:sB (dC (gD L)) 1=dC (gD L) 0:=by simp [sB]
   show sB (gO (gD L)) (1+14)=sB (dC (gD L)) (1+14)+_
   rw [a1,a2,a3,a4,a5]
   omega
  have s4:gO (gD L) 15=dC (gD L) 15%32768:=by unfold gO;rw [if_pos rfl,if_neg (by omega),Int.add_zero]
  rw [s1,s2,s3,s4,kH]
  have hpw:(65536:Int)^15=1766847064778384329583297500742918515827483896875618958121606201292619776:=by decide
  rw [hpw]
  omega
 have hlt:sB (gO (gD L)) 16<57896044618658097711785492504343953926634992332820282019728792003956564819987:=by
  have s1:sB (gO (gD L)) 16=sB (gO (gD L)) 15+gO (gD L) 15*65536^15:=rfl
  have s4:gO (gD L) 15=dC (gD L) 15%32768:=by unfold gO;rw [if_pos rfl,if_neg (by omega),Int.add_zero]
  have s3:sB (gO (gD L)) 15=sB (dC (gD L)) 15+19*(dC (gD L) 15/32768):=by
   have a1:=eM (gO (gD L)) 1 14
   have a2:=eM (dC (gD L)) 1 14
   have a3:sB (fun i=>gO (gD L) (1+i)) 14=sB (fun i=>dC (gD L) (1+i)) 14:=dI 14 fun i hi=>by
    show gO (gD L) (1+i)=dC (gD L) (1+i)
    unfold gO
    rw [if_neg (by omega),if_neg (by omega),Int.add_zero]
   have a4:sB (gO (gD L)) 1=dC (gD L) 0+19*(dC (gD L) 15/32768):=by simp [sB,gO]
   have a5:sB (dC (gD L)) 1=dC (gD L) 0:=by simp [sB]
   show sB (gO (gD L)) (1+14)=sB (dC (gD L)) (1+14)+_
   rw [a1,a2,a3,a4,a5]
   omega
  have r:=fZ 15 fun i hi=>hp i (by omega)
  have hpw:(65536:Int)^15=1766847064778384329583297500742918515827483896875618958121606201292619776:=by decide
  rw [hpw] at r
  rw [s1,s3,s4,hpw]
  omega
 have hv2:vR (vl L)=sB (gO (gD L)) 16:=by
  have e1:sB (dC (gO (gD L))) 16=sB (gO (gD L)) 16:=vn hg (by
   rw [vo]
   have hB:c6=115792089237316195423570985008687907853269984665640564039457584007913129639936:=rfl
   rw [hB];omega)
  rw [←e1]
  exact dI 16 fun i hi=>by rw [uV i hi,(CP hg i hi).2]
 refine ⟨hok,dC (gD L) 15/32768,by rw [hv2,hs],(dJ hok).1,by rw [hv2];exact hlt⟩
section
variable (L O:List Int)
noncomputable def WD (x:Bool):bK:=mk (P:=Tryz.prog) [yw,AY,yx] [] fun i=>if i=98 then some x else none
theorem EN (x:Bool):ag Tryz.prog (WD x):=ai _ aF.nil _ _
theorem abP:(exec Tryz.prog (WD true) 80 0 Nz (ze L O)).bind (fun r=>(r.2.cut [2,3] 3).map fun q=>(r.1,q))=
  some (.normal,⟨(ze L O).t,WA L (Bq O tc),aa (aa (aa true (aa true (cD O&&cD tc))) (decide (vR tc≤vR O))) (aa true (cD O&&cD tc&&decide (vR tc≤vR O)))⟩):=by kernel_rfl
theorem abQ:(exec Tryz.prog (WD false) 80 0 Nz (ze L O)).bind (fun r=>(r.2.cut [2,3] 3).map fun q=>(r.1,q))=
  some (.exit 10,⟨(ze L O).t,WA L O,aa (aa true (aa true (cD O&&cD tc))) (!decide (vR tc≤vR O))⟩):=by kernel_rfl
end
noncomputable def cu (n:Int):List Int:=gz (oZ n)
theorem lG (n:Int):cu n=oZ n:=aq _
theorem br (n:Int):cD (cu n)=true:=by rw [lG];exact Qe n
theorem iJ {n:Int} (h0:0≤n) (h1:n<Pm):vR (cu n)=n:=by rw [lG];exact EF h0 (by rw [kH] at h1;omega)
theorem L0 {L O:List Int} (ho:cD O=true) (h1:vR O<57896044618658097711785492504343953926634992332820282019728792003956564819987):
  Tr Tryz.prog none 0 (ak 12 (aH Tryz.f91)) (ze L O) .normal (ze L (cu (vR O%Pm))):=by
 have h0:=(dJ ho).1
 have pn:=yu
 have stop:∀Q:List Int,cD Q=true→vR Q<Pm→Tr Tryz.prog none 0 Nz (ze L Q) (.exit 10) (ze L Q):=fun Q hq hlt=>by
  have k:=abQ L Q
  refine Tr.post (Tr.cut (EN false) 80 _ 3 (by omega) k ?_) (aU.same rfl rfl)
  rw [hq,CN,pn,decide_eq_false (by omega)];rfl
 by_cases hle:Pm≤vR O
 ·have hm:Bq O tc=cu (vR O%Pm):=by
   rw [Bq,aq,lG,pn]
   congr 1
   rw [kH] at*
   omega
  have hr:Tr Tryz.prog none 0 Nz (ze L O) .normal (ze L (cu (vR O%Pm))):=by
   have k:=abP L O
   rw [hm] at k
   refine Tr.post (Tr.cut (EN true) 80 _ 3 (by omega) k ?_) (aU.same rfl rfl)
   rw [ho,CN,pn,decide_eq_true hle];rfl
  refine Tr.jt 10 (by kernel_rfl) (dy.step hr (dy.leave (stop _ (br _) ?_) (by simp)))
  have:=Int.emod_lt_of_pos (vR O) gF
  rw [iJ (Int.emod_nonneg _ (by have:=gF;omega)) this]
  exact this
 ·have hq:cu (vR O%Pm)=O:=by
   rw [lG,Int.emod_eq_of_lt h0 (by omega),EE ho]
  rw [hq]
  exact Tr.jt 10 (by kernel_rfl) (dy.leave (stop O ho (by omega)) (by simp))
def NA (l:List Int):Bool:=decide (l.length=32)&&(l.all (fun x=>decide (0≤x)&&decide (x≤1125899906842624))&&decide (sB (gD l) 32<c6*c6))
theorem tj {l:List Int}:NA l=true↔Lk l∧sB (gD l) 32<c6*c6:=by
 unfold NA
 rw [Bool.and_eq_true,Bool.and_eq_true,decide_eq_true_eq,decide_eq_true_eq,List.all_eq_true]
 constructor
 ·rintro ⟨h1,h2,h3⟩
  refine ⟨⟨h1,fun i hi=>?_⟩,h3⟩
  have:=h2 (gD l i) (by unfold gD;rw [List.getD_eq_getElem?_getD,List.getElem?_eq_getElem (by omega)];exact List.getElem_mem _)
  simpa using this
 ·rintro ⟨⟨h1,h2⟩,h3⟩
  refine ⟨h1,fun x hx=>?_,h3⟩
  obtain ⟨i,hi,rfl⟩:=List.getElem_of_mem hx
  have:=h2 i (by omega)
  unfold gD at this
  rw [List.getD_eq_getElem?_getD,List.getElem?_eq_getElem hi] at this
  simpa using this
noncomputable def zW (l:List Int):List Int:=cu (sB (gD l) 32%Pm)
theorem abR {l:List Int} (h:NA l=true):aj Tryz.prog 91 [.agg [.ints .i64 32 l]] [] (.agg [.ints .i64 16 (zW l)]) []:=by
 obtain ⟨hk,hv⟩:=tj.1 h
 have hr:=LZ hk hv
 have l32:∀j,j≤4→aO 32 (dG l j)=dG l j:=fun j hj=>aJ (hr j hj).1.len
 have bS:Tr Tryz.prog none 0 (ak 3 (aH Tryz.f91)) (v9 l 0) .normal (v9 (dG l 4) 4):=by
  have key:=Tr.loop (P:=Tryz.prog) (ro:=none) (k:=0) 0 (c:=ak 3 (aH Tryz.f91)) (by kernel_rfl) (fun j:Nat=>v9 (dG l j) j) 4 (s':=v9 (dG l 4) 4) (fun j hj=>?_) ?_
  ·exact key
  ·have k:=vm (dG l j) j
   rw [l32 j (by omega),iw,wrap_i64 _ (by omega) (by omega),show (j:Int)+1=((j+1:Nat):Int) by omega] at k
   refine Tr.post (Tr.cut (eu true) 80 _ 3 (by omega) k ?_) (aU.same rfl rfl)
   rw [decide_eq_true (by omega)];rfl
  ·have k:=Qh (dG l 4) 4
   exact Tr.post (Tr.cut (eu false) 80 _ 3 (by omega) k rfl) (aU.same rfl rfl)
 -- the last number of 16 parts
 obtain ⟨k4,v4⟩:=hr 4 (by omega)
 obtain ⟨k3,v3⟩:=hr 3 (by omega)
 have h0:0≤sB (gD l) 32:=by
  have:∀n,n≤32→0≤sB (gD l) n:=by
   intro n
   induction n with
   |zero=>intro _;simp [sB]
   |succ n ih=>
    intro hn
    rw [sB]
    have h1:=ih (by omega)
    have h2:=Int.mul_nonneg (hk.b n (by omega)).1 (show 0≤(65536:Int)^n from Int.pow_nonneg (by omega))
    omega
  exact this 32 (Nat.le_refl _)
 obtain ⟨_,_,b3,b4⟩:=Tb h0 hv
 obtain ⟨_,_,z4,_⟩:=EM k3 (by rw [v3];have hB:c6=115792089237316195423570985008687907853269984665640564039457584007913129639936:=rfl;rw [hB] at b3 ⊢;omega)
 have e16:sB (gD (dG l 4)) 16=o5 (sB (gD l) 32) 4:=by
  have:=eM (gD (dG l 4)) 16 16
  rw [lD (f:=fun i=>gD (dG l 4) (16+i)) 16 (fun i hi=>z4 (16+i) (by omega) (by omega)),Int.mul_zero,Int.add_zero] at this
  rw [←this]
  exact v4
 obtain ⟨o1,t,o2,o3,o4⟩:=yE (L:=dG l 4) (fun i hi=>k4.b i (by omega)) (by rw [e16];exact b4.2)
 have hmod:vR (vl (dG l 4))%Pm=sB (gD l) 32%Pm:=by
  rw [jW o2,e16]
  show rv (rv (rv (rv (sB (gD l) 32))))%Pm=_
  rw [yD,yD,yD,yD]
 have hw:=L0 (L:=dG l 4) o1 o4
 rw [hmod] at hw
 have ko:=WC (dG l 4)
 rw [l32 4 (by omega)] at ko
 refine aj.cg yz 60 13 0 Tryz.func91 (by simp) rfl (fun s' x hh=>?_) (s:=ze (dG l 4) (zW l)) (p:=true) (by kernel_rfl) rfl rfl rfl
 refine aG.items yz 60 3 _ 3 (by simp) (yA l) rfl (by decide) ?_
 refine aG.item 3 (by decide) bS ?_
 refine aG.items yz 80 8 _ 3 (by simp) ko rfl (by decide) ?_
 rw [List.drop_drop]
 exact aG.item 12 (by decide) hw hh
noncomputable def ql:List SV→Option (SV×List Blk×Bool)
 | [.agg [.ints .i64 32 l]]=>some (.agg [.ints .i64 16 (zW l)],[],NA l)
 |_=>none
noncomputable def fe:Entry Tryz.prog:=.val 91 _ Tryz.func91 (by decide) rfl false 0 ql fun vs v new e=>by
 unfold ql at e
 split at e
 ·simp only [Option.some.injEq,Prod.mk.injEq] at e
  obtain ⟨rfl,rfl,h⟩:=e
  exact abR h
 ·cases e
end Go.Proofs.YtibfpjeeanppjaaGreat.Re
