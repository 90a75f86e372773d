/- This file proves the contracts of the reference's Add, Sub, Mul: modulo p. Conditions: numbers below p. -/
import Derived.Test.YtibfpjeeanppjaaGreatUMg
set_option linter.all false
set_option maxRecDepth 100000
namespace Go.Proofs.YtibfpjeeanppjaaGreat.Re
open Go Go.Sy Fe
def j3 (l:List Int):Bool:=cD l&&decide (vR l<Pm)
theorem ew {l:List Int}:j3 l=true↔cD l=true∧vR l<Pm:=by simp [j3]
theorem Gz {l:List Int} (h:j3 l=true):0≤vR l∧vR l<Pm:=⟨(dJ (ew.1 h).1).1,(ew.1 h).2⟩
theorem ud {n:Int} (h0:0≤n) (h1:n<Pm):j3 (cu n)=true:=ew.2 ⟨br n,by rw [iJ h0 h1];exact h1⟩
theorem eE (n:Int):j3 (cu (n%Pm))=true:=ud (Int.emod_nonneg _ (by have:=gF;omega)) (Int.emod_lt_of_pos _ gF)
theorem sZ (n:Int):vR (cu (n%Pm))=n%Pm:=iJ (Int.emod_nonneg _ (by have:=gF;omega)) (Int.emod_lt_of_pos _ gF)
theorem VE.aO (k:IntKind) (n:Nat) (l:List Int):VE (.agg [.ints k n l]) (.agg [.ints k n (aO n l)]):=Fe.VE.aO k n l
def sq (a b:List Int):List Int:=(List.range 16).map (fun i=>iw (a.getD i 0+b.getD i 0))++List.replicate 16 0
theorem GA {a b:List Int} (ha:cD a=true) (hb:cD b=true) (i:Nat) (hi:i<32):gD (sq a b) i=if i<16 then gD a i+gD b i else 0:=by
 unfold gD sq
 rw [List.getD_eq_getElem?_getD]
 by_cases h:i<16
 ·have p1:=(ct.1 ha).2 i h
  have p2:=(ct.1 hb).2 i h
  rw [List.getElem?_append_left (by simpa using h),List.getElem?_map,List.getElem?_range h,if_pos h]
  show iw (a.getD i 0+b.getD i 0)=_
  rw [iw,wrap_i64 _ (by omega) (by omega)]
 ·rw [List.getElem?_append_right (by simp;omega),if_neg h,List.getElem?_replicate,if_pos (by simp;omega)];rfl
theorem abS {f:Nat→Int} (h:∀i,16≤i→i<32→f i=0):sB f 32=sB f 16:=by
 have:=eM f 16 16
 rw [lD (f:=fun i=>f (16+i)) 16 (fun i hi=>h (16+i) (by omega) (by omega)),Int.mul_zero,Int.add_zero] at this
 exact this
theorem GB {a b:List Int} (ha:cD a=true) (hb:cD b=true):NA (sq a b)=true∧sB (gD (sq a b)) 32=vR a+vR b:=by
 have g:=GA ha hb
 have e:sB (gD (sq a b)) 32=vR a+vR b:=by
  rw [abS (fun i h1 h2=>by rw [g i h2,if_neg (by omega)]),dI (g:=fun i=>gD a i+gD b i) 16 fun i hi=>by rw [g i (by omega),if_pos hi],yt]
  rfl
 refine ⟨tj.2 ⟨⟨by simp [sq],fun i hi=>?_⟩,?_⟩,e⟩
 ·rw [g i hi]
  split
  ·rename_i h
   have p1:=(ct.1 ha).2 i h
   have p2:=(ct.1 hb).2 i h
   unfold gD
   omega
  ·omega
 ·have r1:=dJ ha
  have r2:=dJ hb
  rw [e]
  show vR a+vR b<(115792089237316195423570985008687907853269984665640564039457584007913129639936:Int)*115792089237316195423570985008687907853269984665640564039457584007913129639936
  omega
theorem EO:ag Tryz.prog (mk [fe] []):=ai _ aF.nil _ _
theorem Qi {a b:List Int} (ha:cD a=true) (hb:cD b=true):aj Tryz.prog 86 [.agg [.ints .i64 16 a],.agg [.ints .i64 16 b]] [] (.agg [.ints .i64 16 (cu ((vR a+vR b)%Pm))]) []:=by
 obtain ⟨h1,h2⟩:=GB ha hb
 have key:aj Tryz.prog 86 [.agg [.ints .i64 16 a],.agg [.ints .i64 16 b]] [] (.agg [.ints .i64 16 (zW (sq a b))]) []:=
  aP EO 80 Tryz.func86 (p:=aa true (aa true (NA (sq a b)))) (by kernel_rfl) (by rw [h1];rfl) rfl
 rw [zW,h2] at key
 exact key
noncomputable def AO:List SV→Option (SV×List Blk×Bool)
 | [.agg [.ints .i64 16 a],.agg [.ints .i64 16 b]]=>some (.agg [.ints .i64 16 (cu ((vR a+vR b)%Pm))],[],cD a&&cD b)
 |_=>none
noncomputable def tC:Entry Tryz.prog:=.val 86 _ Tryz.func86 (by decide) rfl false 0 AO fun vs v new e=>by
 unfold AO at e
 split at e
 ·simp only [Option.some.injEq,Prod.mk.injEq,Bool.and_eq_true] at e
  obtain ⟨rfl,rfl,ha,hb⟩:=e
  exact Qi ha hb
 ·cases e
theorem CQ (a b:List Int):Bq a b=cu (vR a-vR b):=by rw [Bq,aq,lG]
theorem WE:ag Tryz.prog (mk [yw,yx,tC] []):=ai _ aF.nil _ _
theorem Qj {a b:List Int} (ha:cD a=true) (hb:cD b=true) (hle:vR b≤Pm):aj Tryz.prog 87 [.agg [.ints .i64 16 a],.agg [.ints .i64 16 b]] [] (.agg [.ints .i64 16 (cu ((vR a-vR b)%Pm))]) []:=by
 have hm:cD (Bq tc b)=true:=by rw [CQ];exact br _
 have r:=dJ hb
 have key:aj Tryz.prog 87 [.agg [.ints .i64 16 a],.agg [.ints .i64 16 b]] [] (.agg [.ints .i64 16 (cu ((vR a+vR (Bq tc b))%Pm))]) []:=
  aP WE 60 Tryz.func87 (p:=aa (aa true (aa true (cD tc&&cD b&&decide (vR b≤vR tc)))) (aa true (cD a&&cD (Bq tc b)))) (by kernel_rfl)
   (by rw [hb,ha,hm,CN,yu,decide_eq_true hle];rfl) rfl
 have hv:vR (Bq tc b)=Pm-vR b:=by rw [CQ,lG,yu];exact EF (by omega) (by rw [kH];omega)
 rw [hv,show vR a+(Pm-vR b)=(vR a-vR b)-(-1)*Pm by omega,jW rfl] at key
 exact key
noncomputable def AP:List SV→Option (SV×List Blk×Bool)
 | [.agg [.ints .i64 16 a],.agg [.ints .i64 16 b]]=>some (.agg [.ints .i64 16 (cu ((vR a-vR b)%Pm))],[],cD a&&j3 b)
 |_=>none
noncomputable def JP:Entry Tryz.prog:=.val 87 _ Tryz.func87 (by decide) rfl false 0 AP fun vs v new e=>by
 unfold AP at e
 split at e
 ·simp only [Option.some.injEq,Prod.mk.injEq,Bool.and_eq_true] at e
  obtain ⟨rfl,rfl,ha,hb⟩:=e
  have:=ew.1 hb
  exact Qj ha this.1 (by omega)
 ·cases e
noncomputable def muC (x:Bool):bK:=mk (P:=Tryz.prog) [] [] fun i=>if i=9 then some x else none
theorem CR (x:Bool):ag Tryz.prog (muC x):=ai _ aF.nil _ _
noncomputable def muH (a b L:List Int):List Blk:=[.b [.ints .i64 16 a],.b [.ints .i64 16 b],.b [.ints .i64 16 Hh],.b [.ints .i64 32 L]]
noncomputable def NB (a b L:List Int) (i:Int):St:=⟨slotsOf 35 [(2,.ptr 0 0 0),(3,.ptr 1 0 0),(4,.ptr 2 0 0),(5,.ptr 3 0 0),(6,.int .i64 i)],muH a b L,true⟩
noncomputable def muB:Code:=inner (inner (ak 3 (aH Tryz.f88)))
def L3 (a b:List Int) (i:Int) (s:List Int×Bool) (j:Nat):List Int×Bool:=
 (s.1.set (0+(iw (i+j)).toNat) (iw (s.1.getD (0+(iw (i+j)).toNat) 0+iw (a.getD (0+i.toNat) 0*b.getD j 0))),
  aa (aa (aa (aa (aa (aa s.2 (cK (iw (i+j)) 32)) (decide (0+(iw (i+j)).toNat<32))) (cK i 16)) (decide (0+i.toNat<16))) (cK (iw (i+j)) 32)) (decide (0+(iw (i+j)).toNat<32)&&decide (s.1.length=32)))
def EP (a b:List Int) (i:Int) (s:List Int×Bool):List Int×Bool:=[0,1,2,3,4,5,6,7,8,9,10,11,12,13,14,15].foldl (L3 a b i) s
theorem WG (a b L:List Int) (i:Int):(exec Tryz.prog (muC true) 80 0 muB (NB a b L i)).bind (fun r=>(r.2.cut [2,3,4,5,6] 4).map fun q=>(r.1,q))=
  some (.normal,⟨(NB a b L (iw (i+1))).t,muH a b (EP a b i (L,aa true (decide (i<16)))).1,(EP a b i (L,aa true (decide (i<16)))).2⟩):=by kernel_rfl
theorem WH (a b L:List Int) (i:Int):(exec Tryz.prog (muC false) 80 0 muB (NB a b L i)).bind (fun r=>(r.2.cut [2,3,4,5,6] 4).map fun q=>(r.1,q))=
  some (.exit 0,⟨(NB a b L i).t,muH a b L,aa true (!decide (i<16))⟩):=by kernel_rfl
theorem Qk (a b:List Int):(az Tryz.prog (muC true) 60 0 3 (atoms (aH Tryz.f88)) ⟨aT Tryz.f88.ntmps [.agg [.ints .i64 16 a],.agg [.ints .i64 16 b]],[],true⟩).bind (St.cut [2,3,4,5,6] 4)=some (NB a b (List.replicate 32 0) 0):=by kernel_rfl
end Go.Proofs.YtibfpjeeanppjaaGreat.Re
namespace Go.Proofs.YtibfpjeeanppjaaGreat.Re
open Go Go.Sy Fe
def WI (a b:List Int) (i:Int) (s:List Int×Bool):Nat→List Int×Bool
 |0=>s
 |j+1=>L3 a b i (WI a b i s j) j
theorem yF (a b:List Int) (i:Int) (s:List Int×Bool):EP a b i s=WI a b i s 16:=rfl
theorem tn {a b L:List Int} {o:Bool} {i:Nat} (hi:i<16) (hL:L.length=32) (ho:o=true):∀j:Nat,j≤16→
  (WI a b i (L,o) j).1.length=32∧(WI a b i (L,o) j).2=true∧∀k,gD (WI a b i (L,o) j).1 k=if i≤k∧k<i+j then iw (gD L k+iw (gD a i*gD b (k-i))) else gD L k
 |0,_=>⟨hL,ho,fun k=>by rw [if_neg (by omega)];rfl⟩
 |j+1,hj=>by
  obtain ⟨h1,h2,h3⟩:=tn hi hL ho j (by omega)
  have e1:iw ((i:Int)+(j:Int))=((i+j:Nat):Int):=by rw [iw,wrap_i64 _ (by omega) (by omega)];omega
  have e2:0+(((i+j:Nat):Int)).toNat=i+j:=by omega
  have e3:0+((i:Int)).toNat=i:=by omega
  rw [WI]
  generalize WI a b i (L,o) j=s at*
  unfold L3
  rw [e1,e2,e3]
  refine ⟨by rw [List.length_set];exact h1,?_,fun k=>?_⟩
  ·have b1:cK ((i+j:Nat):Int) 32=true:=by unfold cK;rw [decide_eq_true (by omega),decide_eq_true (by omega)];rfl
   have b2:cK (i:Int) 16=true:=by unfold cK;rw [decide_eq_true (by omega),decide_eq_true (by omega)];rfl
   rw [h2,b1,b2,h1,decide_eq_true (show i+j<32 by omega),decide_eq_true hi];rfl
  ·show (s.1.set (i+j) _).getD k 0=_
   rw [List.getD_eq_getElem?_getD]
   by_cases hk:i+j=k
   ·subst hk
    rw [List.getElem?_set_self (by omega),if_pos (by omega)]
    have:=h3 (i+j)
    rw [if_neg (by omega)] at this
    show iw (gD s.1 (i+j)+iw (gD a i*gD b j))=_
    rw [this,show i+j-i=j by omega]
   ·rw [List.getElem?_set_ne hk, ←List.getD_eq_getElem?_getD]
    show gD s.1 k=_
    rw [h3 k]
    by_cases h4:i≤k∧k<i+j
    ·rw [if_pos h4,if_pos (by omega)]
    ·rw [if_neg h4,if_neg (by omega)]
def mR (a b:List Int):Nat→List Int
 |0=>List.replicate 32 0
 |i+1=>(EP a b i (mR a b i,true)).1
theorem yG (a b:List Int):∀i,i≤16→(mR a b i).length=32
 |0,_=>by simp [mR]
 |i+1,h=>by rw [mR,yF];exact (tn (by omega) (yG a b i (by omega)) rfl 16 (Nat.le_refl _)).1
theorem qo (n k:Nat):gD (List.replicate n 0) k=0:=by
 unfold gD
 rw [List.getD_eq_getElem?_getD,List.getElem?_replicate]
 split<;>rfl
theorem L5 {a b:List Int} (ha:cD a=true) (hb:cD b=true):∀i,i≤16→(∀k,0≤gD (mR a b i) k∧gD (mR a b i) k≤4294836225*i)∧
  (i<16→∀k,gD (mR a b (i+1)) k=gD (mR a b i) k+if i≤k∧k<i+16 then gD a i*gD b (k-i) else 0):=by
 have prod:∀i j,i<16→j<16→0≤gD a i*gD b j∧gD a i*gD b j≤65535*65535:=fun i j h1 h2=>by
  have p1:=(ct.1 ha).2 i h1
  have p2:=(ct.1 hb).2 j h2
  exact cJ p1.1 (show gD a i≤65535 by unfold gD;omega) p2.1 (show gD b j≤65535 by unfold gD;omega)
 have step:∀i,i<16→(∀k,0≤gD (mR a b i) k∧gD (mR a b i) k≤4294836225*i)→∀k,gD (mR a b (i+1)) k=gD (mR a b i) k+if i≤k∧k<i+16 then gD a i*gD b (k-i) else 0:=fun i hi hb' k=>by
  have:=(tn (a:=a) (b:=b) (o:=true) hi (yG a b i (by omega)) rfl 16 (Nat.le_refl _)).2.2 k
  rw [mR,yF,this]
  split
  ·rename_i h
   have q:=prod i (k-i) hi (by omega)
   have r:=hb' k
   rw [iw,iw,wrap_i64 (gD a i*_) (by omega) (by omega),wrap_i64 _ (by omega) (by omega)]
  ·omega
 intro i
 induction i with
 |zero=>
  intro _
  have h0:∀k,0≤gD (mR a b 0) k∧gD (mR a b 0) k≤4294836225*((0:Nat):Int):=fun k=>by rw [mR,qo];omega
  exact ⟨h0,fun h=>step 0 h h0⟩
 |succ i ih=>
  intro h
  obtain ⟨h1,h2⟩:=ih (by omega)
  have h3:∀k,0≤gD (mR a b (i+1)) k∧gD (mR a b (i+1)) k≤4294836225*((i+1:Nat):Int):=fun k=>by
   rw [h2 (by omega) k]
   have r:=h1 k
   split
   ·have q:=prod i (k-i) (by omega) (by omega)
    omega
   ·omega
  exact ⟨h3,fun h=>step (i+1) h h3⟩
theorem WJ (c:Int) (g:Nat→Int) (i:Nat) (hi:i≤16):sB (fun k=>if i≤k∧k<i+16 then c*g (k-i) else 0) 32=65536^i*(c*sB g 16):=by
 have h:=eM (fun k=>if i≤k∧k<i+16 then c*g (k-i) else 0) i (32-i)
 rw [show i+(32-i)=32 by omega] at h
 rw [h,lD (f:=fun k=>if i≤k∧k<i+16 then c*g (k-i) else 0) i (fun k hk=>if_neg (by omega)),Int.zero_add]
 congr 1
 have h2:=eM (fun t=>if i≤i+t∧i+t<i+16 then c*g (i+t-i) else 0) 16 (16-i)
 rw [show 16+(16-i)=32-i by omega] at h2
 rw [h2,lD (f:=fun t=>if i≤i+(16+t)∧i+(16+t)<i+16 then c*g (i+(16+t)-i) else 0) (16-i) (fun t ht=>if_neg (by omega)),Int.mul_zero,Int.add_zero, ←CL]
 refine dI 16 fun t ht=>?_
 show (if i≤i+t∧i+t<i+16 then c*g (i+t-i) else 0)=c*g t
 rw [if_pos (by omega),show i+t-i=t by omega]
theorem L6 {a b:List Int} (ha:cD a=true) (hb:cD b=true):∀i,i≤16→sB (gD (mR a b i)) 32=sB (gD a) i*vR b
 |0,_=>by rw [lD 32 fun k _=>by rw [mR,qo]];simp [sB]
 |i+1,h=>by
  rw [dI (g:=fun k=>gD (mR a b i) k+if i≤k∧k<i+16 then gD a i*gD b (k-i) else 0) 32 fun k _=>(L5 ha hb i (by omega)).2 (by omega) k,yt,L6 ha hb i (by omega),WJ _ _ i (by omega)]
  show sB (gD a) i*vR b+65536^i*(gD a i*vR b)=(sB (gD a) i+gD a i*65536^i)*vR b
  rw [Int.add_mul, ←Int.mul_assoc,Int.mul_comm (65536^i)]
theorem abT {a b:List Int} (ha:cD a=true) (hb:cD b=true):NA (mR a b 16)=true∧sB (gD (mR a b 16)) 32=vR a*vR b:=by
 have e:=L6 ha hb 16 (Nat.le_refl _)
 have e':sB (gD (mR a b 16)) 32=vR a*vR b:=e
 refine ⟨tj.2 ⟨⟨yG a b 16 (Nat.le_refl _),fun i hi=>?_⟩,?_⟩,e'⟩
 ·have:=(L5 ha hb 16 (Nat.le_refl _)).1 i
  omega
 ·rw [e']
  have r1:=dJ ha
  have r2:=dJ hb
  have hB:c6=115792089237316195423570985008687907853269984665640564039457584007913129639936:=rfl
  have:=cJ r1.1 (show vR a≤c6-1 by rw [hB];omega) r2.1 (show vR b≤c6-1 by rw [hB];omega)
  have h2:(c6-1)*(c6-1)<c6*c6:=by decide
  omega
theorem Ql {a b:List Int} (ha:cD a=true) (hb:cD b=true):aj Tryz.prog 88 [.agg [.ints .i64 16 a],.agg [.ints .i64 16 b]] [] (.agg [.ints .i64 16 (cu (vR a*vR b%Pm))]) []:=by
 obtain ⟨h1,h2⟩:=abT ha hb
 have bS:Tr Tryz.prog none 0 (ak 3 (aH Tryz.f88)) (NB a b (List.replicate 32 0) 0) .normal (NB a b (mR a b 16) 16):=by
  have key:=Tr.loop (P:=Tryz.prog) (ro:=none) (k:=0) 0 (c:=ak 3 (aH Tryz.f88)) (by kernel_rfl) (fun j:Nat=>NB a b (mR a b j) j) 16 (s':=NB a b (mR a b 16) 16) (fun j hj=>?_) ?_
  ·exact key
  ·have k:=WG a b (mR a b j) j
   have e1:iw ((j:Int)+1)=((j+1:Nat):Int):=by rw [iw,wrap_i64 _ (by omega) (by omega)];omega
   have e2:aa true (decide ((j:Int)<16))=true:=by rw [decide_eq_true (by omega)];rfl
   rw [e1,e2] at k
   refine Tr.post (Tr.cut (CR true) 80 _ 4 (by omega) k ?_) (aU.same rfl rfl)
   rw [yF]
   exact (tn hj (yG a b j (by omega)) rfl 16 (Nat.le_refl _)).2.1
  ·have k:=WH a b (mR a b 16) 16
   exact Tr.post (Tr.cut (CR false) 80 _ 4 (by omega) k rfl) (aU.same rfl rfl)
 have key:aj Tryz.prog 88 [.agg [.ints .i64 16 a],.agg [.ints .i64 16 b]] [] (.agg [.ints .i64 16 (zW (mR a b 16))]) []:=by
  refine aj.cg EO 60 4 0 Tryz.func88 (by simp) rfl (fun s' x h=>?_) (s:=NB a b (mR a b 16) 16) (p:=aa true (aa true (NA (mR a b 16)))) (by kernel_rfl) (by rw [h1];rfl) rfl rfl
  refine aG.items (CR true) 60 3 _ 4 (by simp) (Qk a b) rfl (by decide) ?_
  exact aG.item 3 (by decide) bS h
 rw [zW,h2] at key
 exact key
noncomputable def AQ:List SV→Option (SV×List Blk×Bool)
 | [.agg [.ints .i64 16 a],.agg [.ints .i64 16 b]]=>some (.agg [.ints .i64 16 (cu (vR a*vR b%Pm))],[],cD a&&cD b)
 |_=>none
noncomputable def qI:Entry Tryz.prog:=.val 88 _ Tryz.func88 (by decide) rfl false 0 AQ fun vs v new e=>by
 unfold AQ at e
 split at e
 ·simp only [Option.some.injEq,Prod.mk.injEq,Bool.and_eq_true] at e
  obtain ⟨rfl,rfl,ha,hb⟩:=e
  exact Ql ha hb
 ·cases e
end Go.Proofs.YtibfpjeeanppjaaGreat.Re
namespace Go.Proofs.YtibfpjeeanppjaaGreat.Re
open Go Go.Sy Fe
abbrev uw (n:Int):Int:=IntKind.u8.wrap n
def Yx (l:List Int) (i:Nat):Int:=iw (iw (l.getD (2*i) 0)+iw (256*iw (l.getD (2*i+1) 0)))
def L7 (l:List Int):List Int:=(List.range 15).map (Yx l)++[(Yx l 15).tmod 32768]++List.replicate 16 0
theorem ER {v:Int} (i:Nat) (hi:i<16):Yx (eo 32 v) i=v/65536^i%65536:=by
 unfold Yx
 rw [iU _ _ _ (by omega),iU _ _ _ (by omega)]
 have h1:v/256^(2*i)=v/65536^i:=by rw [Int.pow_mul];rfl
 have h2:v/256^(2*i+1)=v/65536^i/256:=by
  rw [Int.pow_succ, ←Int.ediv_ediv_of_nonneg (Int.pow_nonneg (by omega)),h1]
 rw [h1,h2]
 generalize v/65536^i=Y
 rw [iw,iw,iw,iw,wrap_i64 (Y%256) (by omega) (by omega),wrap_i64 (Y/256%256) (by omega) (by omega),wrap_i64 (256*_) (by omega) (by omega),wrap_i64 _ (by omega) (by omega)]
 omega
theorem Qm {v:Int} (i:Nat) (hi:i<32):gD (L7 (eo 32 v)) i=if i<15 then v/65536^i%65536 else if i=15 then v/65536^15%65536%32768 else 0:=by
 unfold gD L7
 rw [List.getD_eq_getElem?_getD,List.append_assoc]
 by_cases h:i<15
 ·rw [List.getElem?_append_left (by simpa using h),List.getElem?_map,List.getElem?_range h,if_pos h]
  show Yx _ i=_
  exact ER i (by omega)
 ·rw [List.getElem?_append_right (by simp;omega),if_neg h]
  simp only [List.length_map,List.length_range]
  by_cases h2:i=15
  ·subst h2
   rw [if_pos rfl]
   show (Yx _ 15).tmod 32768=_
   rw [ER 15 (by omega),Int.tmod_eq_emod_of_nonneg (by omega)]
  ·rw [if_neg h2,show i-15=(i-16)+1 by omega,List.singleton_append,List.getElem?_cons_succ,List.getElem?_replicate,if_pos (by omega)];rfl
theorem Qn {l:List Int} (hl:l.all u8=true) (hn:l.length=32):NA (L7 l)=true∧sB (gD (L7 l)) 32=bz l%57896044618658097711785492504343953926634992332820282019728792003956564819968:=by
 have hd:=mA l hl
 rw [hn] at hd
 have v0:=ec hl
 generalize bz l=v at*
 subst hd
 have g:=Qm (v:=v)
 have p15:(65536:Int)^15=1766847064778384329583297500742918515827483896875618958121606201292619776:=by decide
 have e:sB (gD (L7 (eo 32 v))) 32=v%57896044618658097711785492504343953926634992332820282019728792003956564819968:=by
  rw [abS (fun i h1 h2=>by rw [g i h2,if_neg (by omega),if_neg (by omega)])]
  have s1:sB (gD (L7 (eo 32 v))) 16=sB (gD (L7 (eo 32 v))) 15+gD (L7 (eo 32 v)) 15*65536^15:=rfl
  rw [s1,g 15 (by omega),if_neg (by omega),if_pos rfl,dI (g:=fun i=>v/65536^i%65536) 15 fun i hi=>by rw [g i (by omega),if_pos hi],CM v 15 v0,p15]
  omega
 refine ⟨tj.2 ⟨⟨by simp [L7],fun i hi=>?_⟩,?_⟩,e⟩
 ·rw [g i hi]
  split
  ·omega
  ·split<;>omega
 ·rw [e]
  show _<(115792089237316195423570985008687907853269984665640564039457584007913129639936:Int)*115792089237316195423570985008687907853269984665640564039457584007913129639936
  omega
theorem L8 {l:List Int} (hl:l.all u8=true) (hn:l.length=32):aj Tryz.prog 75 [.agg [.ints .u8 32 l]] [] (.agg [.ints .i64 16 (cu (bz l%57896044618658097711785492504343953926634992332820282019728792003956564819968%Pm))]) []:=by
 obtain ⟨h1,h2⟩:=Qn hl hn
 have key:aj Tryz.prog 75 [.agg [.ints .u8 32 l]] [] (.agg [.ints .i64 16 (zW (L7 l))]) []:=
  aP EO 80 Tryz.func75 (p:=aa true (aa true (NA (L7 l)))) (by kernel_rfl) (by rw [h1];rfl) rfl
 rw [zW,h2] at key
 exact key
def aE (l:List Int):Bool:=decide (l.length=32)&&l.all u8
theorem bQ {l:List Int}:aE l=true↔l.length=32∧l.all u8=true:=by simp [aE]
noncomputable def vb:List SV→Option (SV×List Blk×Bool)
 | [.agg [.ints .u8 32 l]]=>some (.agg [.ints .i64 16 (cu (bz l%57896044618658097711785492504343953926634992332820282019728792003956564819968%Pm))],[],aE l)
 |_=>none
noncomputable def D1:Entry Tryz.prog:=.val 75 _ Tryz.func75 (by decide) rfl false 0 vb fun vs v new e=>by
 unfold vb at e
 split at e
 ·simp only [Option.some.injEq,Prod.mk.injEq,bQ] at e
  obtain ⟨rfl,rfl,h1,h2⟩:=e
  exact L8 h2 h1
 ·cases e
def byL (a:List Int):List Int:=(List.range 32).map fun k=>if k%2=0 then uw ((a.getD (k/2) 0).tmod 256) else uw (iw ((a.getD (k/2) 0).tdiv 256))
theorem Qo {a:List Int} (ha:cD a=true):byL a=eo 32 (vR a):=by
 unfold byL
 rw [←wZ]
 apply List.map_congr_left
 intro k hk
 rw [List.mem_range] at hk
 have yC:=(ct.1 ha).2 (k/2) (by omega)
 have hd:a.getD (k/2) 0=vR a/65536^(k/2)%65536:=qn 16 (k/2) (by omega) (ct.1 ha).2
 rw [Int.tmod_eq_emod_of_nonneg yC.1,Int.tdiv_eq_ediv_of_nonneg yC.1,iw,wrap_i64 _ (by omega) (by omega),uw,uw,wrap_u8,wrap_u8,hd]
 by_cases he:k%2=0
 ·rw [if_pos he,show (256:Int)^k=65536^(k/2) by rw [show (65536:Int)=256^2 from rfl, ←Int.pow_mul];congr 1;omega]
  generalize vR a/65536^(k/2)=Y
  omega
 ·rw [if_neg he,show (256:Int)^k=65536^(k/2)*256 by rw [show (65536:Int)=256^2 from rfl, ←Int.pow_mul, ←Int.pow_succ];congr 1;omega, ←Int.ediv_ediv_of_nonneg (Int.pow_nonneg (by omega))]
  generalize vR a/65536^(k/2)=Y
  omega
theorem GC {a:List Int} (ha:cD a=true):aj Tryz.prog 89 [.agg [.ints .i64 16 a]] [] (.agg [.ints .u8 32 (gz (eo 32 (vR a)))]) []:=by
 rw [aq, ←Qo ha]
 exact aP EO 80 Tryz.func89 (p:=true) (by kernel_rfl) rfl rfl
noncomputable def qm:List SV→Option (SV×List Blk×Bool)
 | [.agg [.ints .i64 16 a]]=>some (.agg [.ints .u8 32 (gz (eo 32 (vR a)))],[],cD a)
 |_=>none
noncomputable def xK:Entry Tryz.prog:=.val 89 _ Tryz.func89 (by decide) rfl false 0 qm fun vs v new e=>by
 unfold qm at e
 split at e
 ·simp only [Option.some.injEq,Prod.mk.injEq] at e
  obtain ⟨rfl,rfl,h1⟩:=e
  exact GC h1
 ·cases e
noncomputable def poC (x y:Bool):bK:=mk (P:=Tryz.prog) [qI] [] fun i=>if i=9 then some x else if i=24 then some y else none
theorem vp (x y:Bool):ag Tryz.prog (poC x y):=ai _ aF.nil _ _
noncomputable def poB:Code:=inner (inner (ak 3 (aH Tryz.f128)))
noncomputable def Tc (a e o:List Int):List Blk:=[.b [.ints .i64 16 a],.b [.ints .i64 16 e],.b [.ints .i64 16 Hh],.b [.ints .i64 16 o]]
noncomputable def ES (a e o:List Int) (i:Int):St:=⟨slotsOf 29 [(2,.ptr 0 0 0),(3,.ptr 1 0 0),(4,.ptr 2 0 0),(5,.ptr 3 0 0),(6,.int .i64 i)],Tc a e o,true⟩
def A0 (e:List Int) (i:Int):Int:=(bh .i64 (e.getD (0+(iw (i.tdiv 16)).toNat) 0) (IntKind.u64.wrap (i.tmod 16)).toNat).tmod 2
def poO (o:List Int) (i:Int):Bool:=aa (aa (aa (aa (aa true (decide (i≥0))) (aa true (cD o&&cD o))) (cK (iw (i.tdiv 16)) 16)) (decide (0+(iw (i.tdiv 16)).toNat<16))) (decide (0≤IntKind.u64.wrap (i.tmod 16)))
noncomputable def sqR (o:List Int):List Int:=cu (vR o*vR o%Pm)
section
variable (a e o:List Int) (i:Int)
theorem WK:(exec Tryz.prog (poC true true) 60 0 poB (ES a e o i)).bind (fun r=>(r.2.cut [2,3,4,5,6] 4).map fun q=>(r.1,q))=
  some (.normal,⟨(ES a e o (iw (i-1))).t,Tc a e (cu (vR (sqR o)*vR a%Pm)),aa (aa (poO o i) (A0 e i==1)) (aa true (cD (sqR o)&&cD a))⟩):=by kernel_rfl
theorem Qp:(exec Tryz.prog (poC true false) 60 0 poB (ES a e o i)).bind (fun r=>(r.2.cut [2,3,4,5,6] 4).map fun q=>(r.1,q))=
  some (.normal,⟨(ES a e o (iw (i-1))).t,Tc a e (sqR o),aa (poO o i) (!(A0 e i==1))⟩):=by kernel_rfl
theorem WL:(exec Tryz.prog (poC false false) 60 0 poB (ES a e o i)).bind (fun r=>(r.2.cut [2,3,4,5,6] 4).map fun q=>(r.1,q))=
  some (.exit 0,⟨(ES a e o i).t,Tc a e o,aa true (!decide (i≥0))⟩):=by kernel_rfl
def nZ:List Int:=1::List.replicate 15 0
theorem Qq:(az Tryz.prog (poC true true) 60 0 3 (atoms (aH Tryz.f128)) ⟨aT Tryz.f128.ntmps [.agg [.ints .i64 16 a],.agg [.ints .i64 16 e]],[],true⟩).bind (St.cut [2,3,4,5,6] 4)=some (ES a e nZ 255):=by kernel_rfl
end
theorem GD {e:List Int} (he:cD e=true) {i:Nat} (h1:i<256):A0 e i=vR e/2^i%2:=by
 have e1:(i:Int).tdiv 16=((i/16:Nat):Int):=by rw [Int.tdiv_eq_ediv_of_nonneg (by omega)];omega
 have e2:(i:Int).tmod 16=((i%16:Nat):Int):=by rw [Int.tmod_eq_emod_of_nonneg (by omega)];omega
 have w1:iw ((i/16:Nat):Int)=((i/16:Nat):Int):=wrap_i64 _ (by omega) (by omega)
 have w2:IntKind.u64.wrap ((i%16:Nat):Int)=((i%16:Nat):Int):=by rw [wrap_u64];omega
 have hd:e.getD (i/16) 0=vR e/65536^(i/16)%65536:=qn 16 (i/16) (by omega) (ct.1 he).2
 unfold A0
 rw [e1,e2,w1,w2,Int.toNat_natCast,Int.toNat_natCast,Nat.zero_add,hd,dj _ _ _ (by show i%16≤64;omega)]
 have hs:vR e/65536^(i/16)/2^(i%16)=vR e/2^i:=by
  rw [Int.ediv_ediv_of_nonneg (Int.pow_nonneg (by omega)),show (65536:Int)=2^16 from rfl, ←Int.pow_mul, ←Int.pow_add]
  congr 2
  omega
 rw [←hs]
 generalize vR e/65536^(i/16)=Y
 have hr:i%16=0∨i%16=1∨i%16=2∨i%16=3∨i%16=4∨i%16=5∨i%16=6∨i%16=7∨i%16=8∨i%16=9∨i%16=10∨i%16=11∨i%16=12∨i%16=13∨i%16=14∨i%16=15:=by omega
 rcases hr with h|h|h|h|h|h|h|h|h|h|h|h|h|h|h|h<;>rw [h]<;>simp only [Int.reducePow]<;>rw [Int.tmod_eq_emod_of_nonneg (by omega)]<;>omega
theorem Qr {o:List Int} {i:Nat} (ho:cD o=true) (h1:i<256):poO o i=true:=by
 have e1:(i:Int).tdiv 16=((i/16:Nat):Int):=by rw [Int.tdiv_eq_ediv_of_nonneg (by omega)];omega
 have e2:(i:Int).tmod 16=((i%16:Nat):Int):=by rw [Int.tmod_eq_emod_of_nonneg (by omega)];omega
 have w1:iw ((i/16:Nat):Int)=((i/16:Nat):Int):=wrap_i64 _ (by omega) (by omega)
 have w2:IntKind.u64.wrap ((i%16:Nat):Int)=((i%16:Nat):Int):=by rw [wrap_u64];omega
 have b:cK ((i/16:Nat):Int) 16=true:=by unfold cK;rw [decide_eq_true (by omega),decide_eq_true (by omega)];rfl
 unfold poO
 rw [e1,e2,w1,w2,ho,b,decide_eq_true (by omega),decide_eq_true (by omega),decide_eq_true (by omega)];rfl
noncomputable def zg (a e:List Int) (j:Nat):List Int:=cu (qK (vR a) (vR e/2^(256-j)).toNat)
theorem j5 (x:Int) (n:Nat):0≤qK x n∧qK x n<Pm:=⟨Int.emod_nonneg _ (by have:=gF;omega),Int.emod_lt_of_pos _ gF⟩
theorem WM (a e:List Int) (j:Nat):vR (zg a e j)=qK (vR a) (vR e/2^(256-j)).toNat:=iJ (j5 _ _).1 (j5 _ _).2
theorem ET (x:Int) (m n:Nat):qK x m*qK x n%Pm=qK x (m+n):=mZ x m n
theorem Qs {x:Int} (h0:0≤x) (h1:x<Pm):qK x 1=x:=by unfold qK;rw [Int.pow_one,Int.emod_eq_of_lt h0 h1]
theorem Qt {a e:List Int} (ha:j3 a=true) (he:cD e=true) {j:Nat} (hj:j<256):Tr Tryz.prog none 0 poB (ES a e (zg a e j) (255-j)) .normal (ES a e (zg a e (j+1)) (255-((j+1:Nat):Int))):=by
 have hi:(255:Int)-j=((255-j:Nat):Int):=by omega
 have hw:iw (255-(j:Int)-1)=255-((j+1:Nat):Int):=by rw [iw,wrap_i64 _ (by omega) (by omega)];omega
 have ho:=Qr (o:=zg a e j) (i:=255-j) (br _) (by omega)
 have hb:=GD he (i:=255-j) (by omega)
 have r:=dJ he
 have ra:=Gz ha
 have hE:vR e/2^(256-(j+1))=2*(vR e/2^(256-j))+vR e/2^(255-j)%2:=by
  have h1:vR e/2^(256-j)=vR e/2^(255-j)/2:=by
   rw [Int.ediv_ediv_of_nonneg (Int.pow_nonneg (by omega)),show 256-j=(255-j)+1 by omega,Int.pow_succ]
  rw [h1,show 256-(j+1)=255-j by omega]
  omega
 have hnn:0≤vR e/2^(256-j):=Int.ediv_nonneg r.1 (Int.pow_nonneg (by omega))
 have Pr:sqR (zg a e j)=cu (qK (vR a) (2*(vR e/2^(256-j))).toNat):=by
  unfold sqR
  rw [WM,ET]
  congr 2
  omega
 cases hc:(A0 e ((255-j:Nat):Int)==1) with
 |true=>
  have k:=WK a e (zg a e j) (255-j)
  rw [hw,hi] at k
  rw [hi]
  have h1:vR e/2^(255-j)%2=1:=by rw [beq_iff_eq,hb] at hc;exact hc
  refine Tr.post (Tr.cut (vp true true) 60 _ 4 (by omega) k ?_) (aU.same rfl ?_)
  ·rw [ho,hc,Pr,br,(ew.1 ha).1];rfl
  ·show Tc _ _ _=Tc _ _ _
   rw [Pr,iJ (j5 _ _).1 (j5 _ _).2]
   conv=>lhs;arg 3;arg 1;arg 1;arg 2;rw [←Qs ra.1 ra.2]
   rw [ET,zg,hE,h1,show (2*(vR e/2^(256-j))+1).toNat=(2*(vR e/2^(256-j))).toNat+1 by omega]
 |false=>
  have k:=Qp a e (zg a e j) (255-j)
  rw [hw,hi] at k
  rw [hi]
  have h1:vR e/2^(255-j)%2=0:=by rw [beq_eq_false_iff_ne,hb] at hc;omega
  refine Tr.post (Tr.cut (vp true false) 60 _ 4 (by omega) k ?_) (aU.same rfl ?_)
  ·rw [ho,hc];rfl
  ·show Tc _ _ _=Tc _ _ _
   rw [Pr,zg,hE,h1,Int.add_zero]
theorem Qu {a e:List Int} (ha:j3 a=true) (he:cD e=true):aj Tryz.prog 128 [.agg [.ints .i64 16 a],.agg [.ints .i64 16 e]] [] (.agg [.ints .i64 16 (cu (qK (vR a) (vR e).toNat))]) []:=by
 have h0:zg a e 0=nZ:=by
  have r:=dJ he
  rw [zg,Nat.sub_zero,show vR e/2^256=0 by rw [show (2:Int)^256=115792089237316195423570985008687907853269984665640564039457584007913129639936 by decide];omega,lG]
  rw [show qK (vR a) (Int.toNat 0)=1 by simp only [qK,Int.toNat_zero,Int.pow_zero];decide]
  decide
 have bS:Tr Tryz.prog none 0 (ak 3 (aH Tryz.f128)) (ES a e nZ 255) .normal (ES a e (zg a e 256) (-1)):=by
  have key:=Tr.loop (P:=Tryz.prog) (ro:=none) (k:=0) 0 (c:=ak 3 (aH Tryz.f128)) (by kernel_rfl) (fun j:Nat=>ES a e (zg a e j) (255-j)) 256 (s':=ES a e (zg a e 256) (-1)) (fun j hj=>?_) ?_
  ·rw [←h0];exact key
  ·exact Qt ha he hj
  ·have k:=WL a e (zg a e 256) (-1)
   exact Tr.post (Tr.cut (vp false false) 60 _ 4 (by omega) k rfl) (aU.same rfl rfl)
 have agl:cu (qK (vR a) (vR e).toNat)=zg a e 256:=by rw [zg,Nat.sub_self,Int.pow_zero,Int.ediv_one]
 rw [agl]
 refine aj.cg (vp true true) 60 4 0 Tryz.func128 (by simp) rfl (fun s' x h=>?_) (s:=ES a e (zg a e 256) (-1)) (p:=true) (by kernel_rfl) rfl rfl rfl
 refine aG.items (vp true true) 60 3 _ 4 (by simp) (Qq a e) rfl (by decide) ?_
 exact aG.item 3 (by decide) bS h
noncomputable def AT:List SV→Option (SV×List Blk×Bool)
 | [.agg [.ints .i64 16 a],.agg [.ints .i64 16 e]]=>some (.agg [.ints .i64 16 (cu (qK (vR a) (vR e).toNat))],[],j3 a&&cD e)
 |_=>none
noncomputable def Ws:Entry Tryz.prog:=.val 128 _ Tryz.func128 (by decide) rfl false 0 AT fun vs v new e=>by
 unfold AT at e
 split at e
 ·simp only [Option.some.injEq,Prod.mk.injEq,Bool.and_eq_true] at e
  obtain ⟨rfl,rfl,h1,h2⟩:=e
  exact Qu h1 h2
 ·cases e
end Go.Proofs.YtibfpjeeanppjaaGreat.Re
namespace Go.Proofs.YtibfpjeeanppjaaGreat.Re
open Go Go.Sy Fe
theorem CK:ag Tryz.prog (mk [yw,yx,Ws] []):=ai _ aF.nil _ _
def vq:List Int:=2::List.replicate 15 0
theorem exp2:vR (Bq tc vq)=Pm-2∧cD (Bq tc vq)=true:=by
 rw [CQ]
 refine ⟨?_,br _⟩
 rw [show vR tc-vR vq=Pm-2 by decide]
 exact iJ (by decide) (by decide)
theorem Qv {a:List Int} (ha:j3 a=true):aj Tryz.prog 90 [.agg [.ints .i64 16 a]] [] (.agg [.ints .i64 16 (cu (qK (vR a) (Pm-2).toNat))]) []:=by
 have key:aj Tryz.prog 90 [.agg [.ints .i64 16 a]] [] (.agg [.ints .i64 16 (cu (qK (vR a) (vR (Bq tc vq)).toNat))]) []:=
  aP CK 60 Tryz.func90 (p:=aa (aa true (aa true (cD tc&&cD vq&&decide (vR vq≤vR tc)))) (aa true (j3 a&&cD (Bq tc vq)))) (by kernel_rfl)
   (by rw [ha,exp2.2];decide) rfl
 rw [exp2.1] at key
 exact key
noncomputable def AU:List SV→Option (SV×List Blk×Bool)
 | [.agg [.ints .i64 16 a]]=>some (.agg [.ints .i64 16 (cu (qK (vR a) (Pm-2).toNat))],[],j3 a)
 |_=>none
noncomputable def Vr:Entry Tryz.prog:=.val 90 _ Tryz.func90 (by decide) rfl false 0 AU fun vs v new e=>by
 unfold AU at e
 split at e
 ·simp only [Option.some.injEq,Prod.mk.injEq] at e
  obtain ⟨rfl,rfl,h1⟩:=e
  exact Qv h1
 ·cases e
end Go.Proofs.YtibfpjeeanppjaaGreat.Re
