/- This file proves the contracts of the reference's Add, Sub, Mul: modulo p. Conditions: numbers below p. -/
import Derived.Test.YtibfpjeeanppjaaGreatYMg
set_option linter.all false
set_option maxRecDepth 100000
namespace Go.Proofs.YtibfpjeeanppjaaGreat.Re
open Go Go.Sy Fe
def kK (l:List Int):Bool:=cH l&&decide (vR l<Pm)
theorem eG {l:List Int}:kK l=true↔cH l=true∧vR l<Pm:=by simp [kK]
theorem Ja {l:List Int} (h:kK l=true):0≤vR l∧vR l<Pm:=⟨(dU (eG.1 h).1).1,(eG.1 h).2⟩
theorem vL {n:Int} (h0:0≤n) (h1:n<Pm):kK (cw n)=true:=eG.2 ⟨bP n,by rw [jh h0 h1];exact h1⟩
theorem eR (n:Int):kK (cw (n%Pm))=true:=vL (Int.emod_nonneg _ (by have:=g9;omega)) (Int.emod_lt_of_pos _ g9)
theorem uR (n:Int):vR (cw (n%Pm))=n%Pm:=jh (Int.emod_nonneg _ (by have:=g9;omega)) (Int.emod_lt_of_pos _ g9)
theorem VE.aH (k:IntKind) (n:Nat) (l:List Int):VE (.agg [.ints k n l]) (.agg [.ints k n (aH n l)]):=Fe.VE.aH k n l
def uf (a b:List Int):List Int:=(List.range 16).map (fun i=>iw (a.getD i 0+b.getD i 0))++List.replicate 16 0
theorem Jb {a b:List Int} (ha:cH a=true) (hb:cH b=true) (i:Nat) (hi:i<32):gD (uf a b) i=if i<16 then gD a i+gD b i else 0:=by
 unfold gD uf
 rw [List.getD_eq_getElem?_getD]
 by_cases h:i<16
 ·have p1:=(cv.1 ha).2 i h
  have p2:=(cv.1 hb).2 i h
  rw [List.getElem?_append_left (by simpa using h),List.getElem?_map,List.getElem?_range h,if_pos h]
  show iw (a.getD i 0+b.getD i 0)=_
  rw [iw,wrap_i64 _ (by omega) (by omega)]
 ·rw [List.getElem?_append_right (by simp;omega),if_neg h,List.getElem?_replicate,if_pos (by simp;omega)];rfl
theorem ae6 {f:Nat→Int} (h:∀i,16≤i→i<32→f i=0):sB f 32=sB f 16:=by
 have:=fe f 16 16
 rw [mB (f:=fun i=>f (16+i)) 16 (fun i hi=>h (16+i) (by omega) (by omega)),Int.mul_zero,Int.add_zero] at this
 exact this
theorem Jc {a b:List Int} (ha:cH a=true) (hb:cH b=true):P8 (uf a b)=true∧sB (gD (uf a b)) 32=vR a+vR b:=by
 have g:=Jb ha hb
 have e:sB (gD (uf a b)) 32=vR a+vR b:=by
  rw [ae6 (fun i h1 h2=>by rw [g i h2,if_neg (by omega)]),dS (g:=fun i=>gD a i+gD b i) 16 fun i hi=>by rw [g i (by omega),if_pos hi],Aj]
  rfl
 refine ⟨vc.2 ⟨⟨by simp [uf],fun i hi=>?_⟩,?_⟩,e⟩
 ·rw [g i hi]
  split
  ·rename_i h
   have p1:=(cv.1 ha).2 i h
   have p2:=(cv.1 hb).2 i h
   unfold gD
   omega
  ·omega
 ·have r1:=dU ha
  have r2:=dU hb
  rw [e]
  show vR a+vR b<(115792089237316195423570985008687907853269984665640564039457584007913129639936:Int)*115792089237316195423570985008687907853269984665640564039457584007913129639936
  omega
theorem He:ag Tryz.prog (mk [fC] []):=ah _ au.nil _ _
theorem Sx {a b:List Int} (ha:cH a=true) (hb:cH b=true):ai Tryz.prog 86 [.agg [.ints .i64 16 a],.agg [.ints .i64 16 b]] [] (.agg [.ints .i64 16 (cw ((vR a+vR b)%Pm))]) []:=by
 obtain ⟨h1,h2⟩:=Jc ha hb
 have key:ai Tryz.prog 86 [.agg [.ints .i64 16 a],.agg [.ints .i64 16 b]] [] (.agg [.ints .i64 16 (BH (uf a b))]) []:=
  aF He 80 Tryz.func86 (p:=aa true (aa true (P8 (uf a b)))) (by kernel_rfl) (by rw [h1];rfl) rfl
 rw [BH,h2] at key
 exact key
noncomputable def Cz:List SV→Option (SV×List Blk×Bool)
 | [.agg [.ints .i64 16 a],.agg [.ints .i64 16 b]]=>some (.agg [.ints .i64 16 (cw ((vR a+vR b)%Pm))],[],cH a&&cH b)
 |_=>none
noncomputable def vr:Entry Tryz.prog:=.val 86 _ Tryz.func86 (by decide) rfl false 0 Cz fun vs v new e=>by
 unfold Cz at e
 split at e
 ·simp only [Option.some.injEq,Prod.mk.injEq,Bool.and_eq_true] at e
  obtain ⟨rfl,rfl,ha,hb⟩:=e
  exact Sx ha hb
 ·cases e
theorem E0 (a b:List Int):DE a b=cw (vR a-vR b):=by rw [DE,aD,mF]
theorem YX:ag Tryz.prog (mk [Al,Am,vr] []):=ah _ au.nil _ _
theorem Sz {a b:List Int} (ha:cH a=true) (hb:cH b=true) (hle:vR b≤Pm):ai Tryz.prog 87 [.agg [.ints .i64 16 a],.agg [.ints .i64 16 b]] [] (.agg [.ints .i64 16 (cw ((vR a-vR b)%Pm))]) []:=by
 have hm:cH (DE u7 b)=true:=by rw [E0];exact bP _
 have r:=dU hb
 have key:ai Tryz.prog 87 [.agg [.ints .i64 16 a],.agg [.ints .i64 16 b]] [] (.agg [.ints .i64 16 (cw ((vR a+vR (DE u7 b))%Pm))]) []:=
  aF YX 60 Tryz.func87 (p:=aa (aa true (aa true (cH u7&&cH b&&decide (vR b≤vR u7)))) (aa true (cH a&&cH (DE u7 b)))) (by kernel_rfl)
   (by rw [hb,ha,hm,EX,Ak,decide_eq_true hle];rfl) rfl
 have hv:vR (DE u7 b)=Pm-vR b:=by rw [E0,mF,Ak];exact G0 (by omega) (by rw [jC];omega)
 rw [hv,show vR a+(Pm-vR b)=(vR a-vR b)-(-1)*Pm by omega,kE rfl] at key
 exact key
noncomputable def CA:List SV→Option (SV×List Blk×Bool)
 | [.agg [.ints .i64 16 a],.agg [.ints .i64 16 b]]=>some (.agg [.ints .i64 16 (cw ((vR a-vR b)%Pm))],[],cH a&&kK b)
 |_=>none
noncomputable def KX:Entry Tryz.prog:=.val 87 _ Tryz.func87 (by decide) rfl false 0 CA fun vs v new e=>by
 unfold CA at e
 split at e
 ·simp only [Option.some.injEq,Prod.mk.injEq,Bool.and_eq_true] at e
  obtain ⟨rfl,rfl,ha,hb⟩:=e
  have:=eG.1 hb
  exact Sz ha this.1 (by omega)
 ·cases e
noncomputable def muC (x:Bool):bu:=mk (P:=Tryz.prog) [] [] fun i=>if i=9 then some x else none
theorem E2 (x:Bool):ag Tryz.prog (muC x):=ah _ au.nil _ _
noncomputable def muH (a b L:List Int):List Blk:=[.b [.ints .i64 16 a],.b [.ints .i64 16 b],.b [.ints .i64 16 JP],.b [.ints .i64 32 L]]
noncomputable def P9 (a b L:List Int) (i:Int):St:=⟨slotsOf 35 [(2,.ptr 0 0 0),(3,.ptr 1 0 0),(4,.ptr 2 0 0),(5,.ptr 3 0 0),(6,.int .i64 i)],muH a b L,true⟩
noncomputable def muB:Code:=inner (inner (aA 3 (aE Tryz.f88)))
def Nx (a b:List Int) (i:Int) (s:List Int×Bool) (j:Nat):List Int×Bool:=
 (s.1.set (0+(iw (i+j)).toNat) (iw (s.1.getD (0+(iw (i+j)).toNat) 0+iw (a.getD (0+i.toNat) 0*b.getD j 0))),
  aa (aa (aa (aa (aa (aa s.2 (cL (iw (i+j)) 32)) (decide (0+(iw (i+j)).toNat<32))) (cL i 16)) (decide (0+i.toNat<16))) (cL (iw (i+j)) 32)) (decide (0+(iw (i+j)).toNat<32)&&decide (s.1.length=32)))
def Hf (a b:List Int) (i:Int) (s:List Int×Bool):List Int×Bool:=[0,1,2,3,4,5,6,7,8,9,10,11,12,13,14,15].foldl (Nx a b i) s
theorem YY (a b L:List Int) (i:Int):(exec Tryz.prog (muC true) 80 0 muB (P9 a b L i)).bind (fun r=>(r.2.cut [2,3,4,5,6] 4).map fun q=>(r.1,q))=
  some (.normal,⟨(P9 a b L (iw (i+1))).t,muH a b (Hf a b i (L,aa true (decide (i<16)))).1,(Hf a b i (L,aa true (decide (i<16)))).2⟩):=by kernel_rfl
theorem YZ (a b L:List Int) (i:Int):(exec Tryz.prog (muC false) 80 0 muB (P9 a b L i)).bind (fun r=>(r.2.cut [2,3,4,5,6] 4).map fun q=>(r.1,q))=
  some (.exit 0,⟨(P9 a b L i).t,muH a b L,aa true (!decide (i<16))⟩):=by kernel_rfl
theorem SA (a b:List Int):(aW Tryz.prog (muC true) 60 0 3 (atoms (aE Tryz.f88)) ⟨aO Tryz.f88.ntmps [.agg [.ints .i64 16 a],.agg [.ints .i64 16 b]],[],true⟩).bind (St.cut [2,3,4,5,6] 4)=some (P9 a b (List.replicate 32 0) 0):=by kernel_rfl
end Go.Proofs.YtibfpjeeanppjaaGreat.Re
namespace Go.Proofs.YtibfpjeeanppjaaGreat.Re
open Go Go.Sy Fe
def Y0 (a b:List Int) (i:Int) (s:List Int×Bool):Nat→List Int×Bool
 |0=>s
 |j+1=>Nx a b i (Y0 a b i s j) j
theorem As (a b:List Int) (i:Int) (s:List Int×Bool):Hf a b i s=Y0 a b i s 16:=rfl
theorem ve {a b L:List Int} {o:Bool} {i:Nat} (hi:i<16) (hL:L.length=32) (ho:o=true):∀j:Nat,j≤16→
  (Y0 a b i (L,o) j).1.length=32∧(Y0 a b i (L,o) j).2=true∧∀k,gD (Y0 a b i (L,o) j).1 k=if i≤k∧k<i+j then iw (gD L k+iw (gD a i*gD b (k-i))) else gD L k
 |0,_=>⟨hL,ho,fun k=>by rw [if_neg (by omega)];rfl⟩
 |j+1,hj=>by
  obtain ⟨h1,h2,h3⟩:=ve hi hL ho j (by omega)
  have e1:iw ((i:Int)+(j:Int))=((i+j:Nat):Int):=by rw [iw,wrap_i64 _ (by omega) (by omega)];omega
  have e2:0+(((i+j:Nat):Int)).toNat=i+j:=by omega
  have e3:0+((i:Int)).toNat=i:=by omega
  rw [Y0]
  generalize Y0 a b i (L,o) j=s at*
  unfold Nx
  rw [e1,e2,e3]
  refine ⟨by rw [List.length_set];exact h1,?_,fun k=>?_⟩
  ·have b1:cL ((i+j:Nat):Int) 32=true:=by unfold cL;rw [decide_eq_true (by omega),decide_eq_true (by omega)];rfl
   have b2:cL (i:Int) 16=true:=by unfold cL;rw [decide_eq_true (by omega),decide_eq_true (by omega)];rfl
   rw [h2,b1,b2,h1,decide_eq_true (show i+j<32 by omega),decide_eq_true hi];rfl
  ·show (s.1.set (i+j) _).getD k 0=_
   rw [List.getD_eq_getElem?_getD]
   by_cases hk:i+j=k
   ·subst hk
    rw [List.getElem?_set_self (by omega),if_pos (by omega)]
    have:=h3 (i+j)
    rw [if_neg (by omega)] at this
    show iw (gD s.1 (i+j)+iw (gD a i*gD b j))=_
    rw [this,show i+j-i=j by omega]
   ·rw [List.getElem?_set_ne hk, ←List.getD_eq_getElem?_getD]
    show gD s.1 k=_
    rw [h3 k]
    by_cases h4:i≤k∧k<i+j
    ·rw [if_pos h4,if_pos (by omega)]
    ·rw [if_neg h4,if_neg (by omega)]
def mR (a b:List Int):Nat→List Int
 |0=>List.replicate 32 0
 |i+1=>(Hf a b i (mR a b i,true)).1
theorem At (a b:List Int):∀i,i≤16→(mR a b i).length=32
 |0,_=>by simp [mR]
 |i+1,h=>by rw [mR,As];exact (ve (by omega) (At a b i (by omega)) rfl 16 (Nat.le_refl _)).1
theorem rL (n k:Nat):gD (List.replicate n 0) k=0:=by
 unfold gD
 rw [List.getD_eq_getElem?_getD,List.getElem?_replicate]
 split<;>rfl
theorem Ny {a b:List Int} (ha:cH a=true) (hb:cH b=true):∀i,i≤16→(∀k,0≤gD (mR a b i) k∧gD (mR a b i) k≤4294836225*i)∧
  (i<16→∀k,gD (mR a b (i+1)) k=gD (mR a b i) k+if i≤k∧k<i+16 then gD a i*gD b (k-i) else 0):=by
 have prod:∀i j,i<16→j<16→0≤gD a i*gD b j∧gD a i*gD b j≤65535*65535:=fun i j h1 h2=>by
  have p1:=(cv.1 ha).2 i h1
  have p2:=(cv.1 hb).2 j h2
  exact cO p1.1 (show gD a i≤65535 by unfold gD;omega) p2.1 (show gD b j≤65535 by unfold gD;omega)
 have step:∀i,i<16→(∀k,0≤gD (mR a b i) k∧gD (mR a b i) k≤4294836225*i)→∀k,gD (mR a b (i+1)) k=gD (mR a b i) k+if i≤k∧k<i+16 then gD a i*gD b (k-i) else 0:=fun i hi hb' k=>by
  have:=(ve (a:=a) (b:=b) (o:=true) hi (At a b i (by omega)) rfl 16 (Nat.le_refl _)).2.2 k
  rw [mR,As,this]
  split
  ·rename_i h
   have q:=prod i (k-i) hi (by omega)
   have r:=hb' k
   rw [iw,iw,wrap_i64 (gD a i*_) (by omega) (by omega),wrap_i64 _ (by omega) (by omega)]
  ·omega
 intro i
 induction i with
 |zero=>
  intro _
  have h0:∀k,0≤gD (mR a b 0) k∧gD (mR a b 0) k≤4294836225*((0:Nat):Int):=fun k=>by rw [mR,rL];omega
  exact ⟨h0,fun h=>step 0 h h0⟩
 |succ i ih=>
  intro h
  obtain ⟨h1,h2⟩:=ih (by omega)
  have h3:∀k,0≤gD (mR a b (i+1)) k∧gD (mR a b (i+1)) k≤4294836225*((i+1:Nat):Int):=fun k=>by
   rw [h2 (by omega) k]
   have r:=h1 k
   split
   ·have q:=prod i (k-i) (by omega) (by omega)
    omega
   ·omega
  exact ⟨h3,fun h=>step (i+1) h h3⟩
theorem Y1 (c:Int) (g:Nat→Int) (i:Nat) (hi:i≤16):sB (fun k=>if i≤k∧k<i+16 then c*g (k-i) else 0) 32=65536^i*(c*sB g 16):=by
 have h:=fe (fun k=>if i≤k∧k<i+16 then c*g (k-i) else 0) i (32-i)
 rw [show i+(32-i)=32 by omega] at h
 rw [h,mB (f:=fun k=>if i≤k∧k<i+16 then c*g (k-i) else 0) i (fun k hk=>if_neg (by omega)),Int.zero_add]
 congr 1
 have h2:=fe (fun t=>if i≤i+t∧i+t<i+16 then c*g (i+t-i) else 0) 16 (16-i)
 rw [show 16+(16-i)=32-i by omega] at h2
 rw [h2,mB (f:=fun t=>if i≤i+(16+t)∧i+(16+t)<i+16 then c*g (i+(16+t)-i) else 0) (16-i) (fun t ht=>if_neg (by omega)),Int.mul_zero,Int.add_zero, ←EV]
 refine dS 16 fun t ht=>?_
 show (if i≤i+t∧i+t<i+16 then c*g (i+t-i) else 0)=c*g t
 rw [if_pos (by omega),show i+t-i=t by omega]
theorem Nz {a b:List Int} (ha:cH a=true) (hb:cH b=true):∀i,i≤16→sB (gD (mR a b i)) 32=sB (gD a) i*vR b
 |0,_=>by rw [mB 32 fun k _=>by rw [mR,rL]];simp [sB]
 |i+1,h=>by
  rw [dS (g:=fun k=>gD (mR a b i) k+if i≤k∧k<i+16 then gD a i*gD b (k-i) else 0) 32 fun k _=>(Ny ha hb i (by omega)).2 (by omega) k,Aj,Nz ha hb i (by omega),Y1 _ _ i (by omega)]
  show sB (gD a) i*vR b+65536^i*(gD a i*vR b)=(sB (gD a) i+gD a i*65536^i)*vR b
  rw [Int.add_mul, ←Int.mul_assoc,Int.mul_comm (65536^i)]
theorem ae7 {a b:List Int} (ha:cH a=true) (hb:cH b=true):P8 (mR a b 16)=true∧sB (gD (mR a b 16)) 32=vR a*vR b:=by
 have e:=Nz ha hb 16 (Nat.le_refl _)
 have e':sB (gD (mR a b 16)) 32=vR a*vR b:=e
 refine ⟨vc.2 ⟨⟨At a b 16 (Nat.le_refl _),fun i hi=>?_⟩,?_⟩,e'⟩
 ·have:=(Ny ha hb 16 (Nat.le_refl _)).1 i
  omega
 ·rw [e']
  have r1:=dU ha
  have r2:=dU hb
  have hB:dh=115792089237316195423570985008687907853269984665640564039457584007913129639936:=rfl
  have:=cO r1.1 (show vR a≤dh-1 by rw [hB];omega) r2.1 (show vR b≤dh-1 by rw [hB];omega)
  have h2:(dh-1)*(dh-1)<dh*dh:=by decide
  omega
theorem SB {a b:List Int} (ha:cH a=true) (hb:cH b=true):ai Tryz.prog 88 [.agg [.ints .i64 16 a],.agg [.ints .i64 16 b]] [] (.agg [.ints .i64 16 (cw (vR a*vR b%Pm))]) []:=by
 obtain ⟨h1,h2⟩:=ae7 ha hb
 have bY:Tr Tryz.prog none 0 (aA 3 (aE Tryz.f88)) (P9 a b (List.replicate 32 0) 0) .normal (P9 a b (mR a b 16) 16):=by
  have key:=Tr.loop (P:=Tryz.prog) (ro:=none) (k:=0) 0 (c:=aA 3 (aE Tryz.f88)) (by kernel_rfl) (fun j:Nat=>P9 a b (mR a b j) j) 16 (s':=P9 a b (mR a b 16) 16) (fun j hj=>?_) ?_
  ·exact key
  ·have k:=YY a b (mR a b j) j
   have e1:iw ((j:Int)+1)=((j+1:Nat):Int):=by rw [iw,wrap_i64 _ (by omega) (by omega)];omega
   have e2:aa true (decide ((j:Int)<16))=true:=by rw [decide_eq_true (by omega)];rfl
   rw [e1,e2] at k
   refine Tr.post (Tr.cut (E2 true) 80 _ 4 (by omega) k ?_) (bq.same rfl rfl)
   rw [As]
   exact (ve hj (At a b j (by omega)) rfl 16 (Nat.le_refl _)).2.1
  ·have k:=YZ a b (mR a b 16) 16
   exact Tr.post (Tr.cut (E2 false) 80 _ 4 (by omega) k rfl) (bq.same rfl rfl)
 have key:ai Tryz.prog 88 [.agg [.ints .i64 16 a],.agg [.ints .i64 16 b]] [] (.agg [.ints .i64 16 (BH (mR a b 16))]) []:=by
  refine ai.cu He 60 4 0 Tryz.func88 (by simp) rfl (fun s' x h=>?_) (s:=P9 a b (mR a b 16) 16) (p:=aa true (aa true (P8 (mR a b 16)))) (by kernel_rfl) (by rw [h1];rfl) rfl rfl
  refine bf.items (E2 true) 60 3 _ 4 (by simp) (SA a b) rfl (by decide) ?_
  exact bf.item 3 (by decide) bY h
 rw [BH,h2] at key
 exact key
noncomputable def CC:List SV→Option (SV×List Blk×Bool)
 | [.agg [.ints .i64 16 a],.agg [.ints .i64 16 b]]=>some (.agg [.ints .i64 16 (cw (vR a*vR b%Pm))],[],cH a&&cH b)
 |_=>none
noncomputable def sE:Entry Tryz.prog:=.val 88 _ Tryz.func88 (by decide) rfl false 0 CC fun vs v new e=>by
 unfold CC at e
 split at e
 ·simp only [Option.some.injEq,Prod.mk.injEq,Bool.and_eq_true] at e
  obtain ⟨rfl,rfl,ha,hb⟩:=e
  exact SB ha hb
 ·cases e
end Go.Proofs.YtibfpjeeanppjaaGreat.Re
namespace Go.Proofs.YtibfpjeeanppjaaGreat.Re
open Go Go.Sy Fe
abbrev uw (n:Int):Int:=IntKind.u8.wrap n
def frI (l:List Int) (i:Nat):Int:=iw (iw (l.getD (2*i) 0)+iw (256*iw (l.getD (2*i+1) 0)))
def NA (l:List Int):List Int:=(List.range 15).map (frI l)++[(frI l 15).tmod 32768]++List.replicate 16 0
theorem Hg {v:Int} (i:Nat) (hi:i<16):frI (fY 32 v) i=v/65536^i%65536:=by
 unfold frI
 rw [fQ _ _ _ (by omega),fQ _ _ _ (by omega)]
 have h1:v/256^(2*i)=v/65536^i:=by rw [Int.pow_mul];rfl
 have h2:v/256^(2*i+1)=v/65536^i/256:=by
  rw [Int.pow_succ, ←Int.ediv_ediv_of_nonneg (Int.pow_nonneg (by omega)),h1]
 rw [h1,h2]
 generalize v/65536^i=Y
 rw [iw,iw,iw,iw,wrap_i64 (Y%256) (by omega) (by omega),wrap_i64 (Y/256%256) (by omega) (by omega),wrap_i64 (256*_) (by omega) (by omega),wrap_i64 _ (by omega) (by omega)]
 omega
theorem SC {v:Int} (i:Nat) (hi:i<32):gD (NA (fY 32 v)) i=if i<15 then v/65536^i%65536 else if i=15 then v/65536^15%65536%32768 else 0:=by
 unfold gD NA
 rw [List.getD_eq_getElem?_getD,List.append_assoc]
 by_cases h:i<15
 ·rw [List.getElem?_append_left (by simpa using h),List.getElem?_map,List.getElem?_range h,if_pos h]
  show frI _ i=_
  exact Hg i (by omega)
 ·rw [List.getElem?_append_right (by simp;omega),if_neg h]
  simp only [List.length_map,List.length_range]
  by_cases h2:i=15
  ·subst h2
   rw [if_pos rfl]
   show (frI _ 15).tmod 32768=_
   rw [Hg 15 (by omega),Int.tmod_eq_emod_of_nonneg (by omega)]
  ·rw [if_neg h2,show i-15=(i-16)+1 by omega,List.singleton_append,List.getElem?_cons_succ,List.getElem?_replicate,if_pos (by omega)];rfl
theorem SE {l:List Int} (hl:l.all u8=true) (hn:l.length=32):P8 (NA l)=true∧sB (gD (NA l)) 32=bh l%57896044618658097711785492504343953926634992332820282019728792003956564819968:=by
 have hd:=kM l hl
 rw [hn] at hd
 have v0:=dD hl
 generalize bh l=v at*
 subst hd
 have g:=SC (v:=v)
 have p15:(65536:Int)^15=1766847064778384329583297500742918515827483896875618958121606201292619776:=by decide
 have e:sB (gD (NA (fY 32 v))) 32=v%57896044618658097711785492504343953926634992332820282019728792003956564819968:=by
  rw [ae6 (fun i h1 h2=>by rw [g i h2,if_neg (by omega),if_neg (by omega)])]
  have s1:sB (gD (NA (fY 32 v))) 16=sB (gD (NA (fY 32 v))) 15+gD (NA (fY 32 v)) 15*65536^15:=rfl
  rw [s1,g 15 (by omega),if_neg (by omega),if_pos rfl,dS (g:=fun i=>v/65536^i%65536) 15 fun i hi=>by rw [g i (by omega),if_pos hi],EW v 15 v0,p15]
  omega
 refine ⟨vc.2 ⟨⟨by simp [NA],fun i hi=>?_⟩,?_⟩,e⟩
 ·rw [g i hi]
  split
  ·omega
  ·split<;>omega
 ·rw [e]
  show _<(115792089237316195423570985008687907853269984665640564039457584007913129639936:Int)*115792089237316195423570985008687907853269984665640564039457584007913129639936
  omega
theorem NB {l:List Int} (hl:l.all u8=true) (hn:l.length=32):ai Tryz.prog 75 [.agg [.ints .u8 32 l]] [] (.agg [.ints .i64 16 (cw (bh l%57896044618658097711785492504343953926634992332820282019728792003956564819968%Pm))]) []:=by
 obtain ⟨h1,h2⟩:=SE hl hn
 have key:ai Tryz.prog 75 [.agg [.ints .u8 32 l]] [] (.agg [.ints .i64 16 (BH (NA l))]) []:=
  aF He 80 Tryz.func75 (p:=aa true (aa true (P8 (NA l)))) (by kernel_rfl) (by rw [h1];rfl) rfl
 rw [BH,h2] at key
 exact key
def aj (l:List Int):Bool:=decide (l.length=32)&&l.all u8
theorem bI {l:List Int}:aj l=true↔l.length=32∧l.all u8=true:=by simp [aj]
noncomputable def w7:List SV→Option (SV×List Blk×Bool)
 | [.agg [.ints .u8 32 l]]=>some (.agg [.ints .i64 16 (cw (bh l%57896044618658097711785492504343953926634992332820282019728792003956564819968%Pm))],[],aj l)
 |_=>none
noncomputable def Ge:Entry Tryz.prog:=.val 75 _ Tryz.func75 (by decide) rfl false 0 w7 fun vs v new e=>by
 unfold w7 at e
 split at e
 ·simp only [Option.some.injEq,Prod.mk.injEq,bI] at e
  obtain ⟨rfl,rfl,h1,h2⟩:=e
  exact NB h2 h1
 ·cases e
def byL (a:List Int):List Int:=(List.range 32).map fun k=>if k%2=0 then uw ((a.getD (k/2) 0).tmod 256) else uw (iw ((a.getD (k/2) 0).tdiv 256))
theorem SF {a:List Int} (ha:cH a=true):byL a=fY 32 (vR a):=by
 unfold byL
 rw [←yN]
 apply List.map_congr_left
 intro k hk
 rw [List.mem_range] at hk
 have Ap:=(cv.1 ha).2 (k/2) (by omega)
 have hd:a.getD (k/2) 0=vR a/65536^(k/2)%65536:=rJ 16 (k/2) (by omega) (cv.1 ha).2
 rw [Int.tmod_eq_emod_of_nonneg Ap.1,Int.tdiv_eq_ediv_of_nonneg Ap.1,iw,wrap_i64 _ (by omega) (by omega),uw,uw,wrap_u8,wrap_u8,hd]
 by_cases he:k%2=0
 ·rw [if_pos he,show (256:Int)^k=65536^(k/2) by rw [show (65536:Int)=256^2 from rfl, ←Int.pow_mul];congr 1;omega]
  generalize vR a/65536^(k/2)=Y
  omega
 ·rw [if_neg he,show (256:Int)^k=65536^(k/2)*256 by rw [show (65536:Int)=256^2 from rfl, ←Int.pow_mul, ←Int.pow_succ];congr 1;omega, ←Int.ediv_ediv_of_nonneg (Int.pow_nonneg (by omega))]
  generalize vR a/65536^(k/2)=Y
  omega
theorem Jd {a:List Int} (ha:cH a=true):ai Tryz.prog 89 [.agg [.ints .i64 16 a]] [] (.agg [.ints .u8 32 (gY (fY 32 (vR a)))]) []:=by
 rw [aD, ←SF ha]
 exact aF He 80 Tryz.func89 (p:=true) (by kernel_rfl) rfl rfl
noncomputable def rI:List SV→Option (SV×List Blk×Bool)
 | [.agg [.ints .i64 16 a]]=>some (.agg [.ints .u8 32 (gY (fY 32 (vR a)))],[],cH a)
 |_=>none
noncomputable def zE:Entry Tryz.prog:=.val 89 _ Tryz.func89 (by decide) rfl false 0 rI fun vs v new e=>by
 unfold rI at e
 split at e
 ·simp only [Option.some.injEq,Prod.mk.injEq] at e
  obtain ⟨rfl,rfl,h1⟩:=e
  exact Jd h1
 ·cases e
noncomputable def poC (x y:Bool):bu:=mk (P:=Tryz.prog) [sE] [] fun i=>if i=9 then some x else if i=24 then some y else none
theorem xp (x y:Bool):ag Tryz.prog (poC x y):=ah _ au.nil _ _
noncomputable def poB:Code:=inner (inner (aA 3 (aE Tryz.f128)))
noncomputable def VH (a e o:List Int):List Blk:=[.b [.ints .i64 16 a],.b [.ints .i64 16 e],.b [.ints .i64 16 JP],.b [.ints .i64 16 o]]
noncomputable def Hh (a e o:List Int) (i:Int):St:=⟨slotsOf 29 [(2,.ptr 0 0 0),(3,.ptr 1 0 0),(4,.ptr 2 0 0),(5,.ptr 3 0 0),(6,.int .i64 i)],VH a e o,true⟩
def CM (e:List Int) (i:Int):Int:=(bO .i64 (e.getD (0+(iw (i.tdiv 16)).toNat) 0) (IntKind.u64.wrap (i.tmod 16)).toNat).tmod 2
def poO (o:List Int) (i:Int):Bool:=aa (aa (aa (aa (aa true (decide (i≥0))) (aa true (cH o&&cH o))) (cL (iw (i.tdiv 16)) 16)) (decide (0+(iw (i.tdiv 16)).toNat<16))) (decide (0≤IntKind.u64.wrap (i.tmod 16)))
noncomputable def sqR (o:List Int):List Int:=cw (vR o*vR o%Pm)
section
variable (a e o:List Int) (i:Int)
theorem Y2:(exec Tryz.prog (poC true true) 60 0 poB (Hh a e o i)).bind (fun r=>(r.2.cut [2,3,4,5,6] 4).map fun q=>(r.1,q))=
  some (.normal,⟨(Hh a e o (iw (i-1))).t,VH a e (cw (vR (sqR o)*vR a%Pm)),aa (aa (poO o i) (CM e i==1)) (aa true (cH (sqR o)&&cH a))⟩):=by kernel_rfl
theorem SG:(exec Tryz.prog (poC true false) 60 0 poB (Hh a e o i)).bind (fun r=>(r.2.cut [2,3,4,5,6] 4).map fun q=>(r.1,q))=
  some (.normal,⟨(Hh a e o (iw (i-1))).t,VH a e (sqR o),aa (poO o i) (!(CM e i==1))⟩):=by kernel_rfl
theorem Y3:(exec Tryz.prog (poC false false) 60 0 poB (Hh a e o i)).bind (fun r=>(r.2.cut [2,3,4,5,6] 4).map fun q=>(r.1,q))=
  some (.exit 0,⟨(Hh a e o i).t,VH a e o,aa true (!decide (i≥0))⟩):=by kernel_rfl
def pg:List Int:=1::List.replicate 15 0
theorem SH:(aW Tryz.prog (poC true true) 60 0 3 (atoms (aE Tryz.f128)) ⟨aO Tryz.f128.ntmps [.agg [.ints .i64 16 a],.agg [.ints .i64 16 e]],[],true⟩).bind (St.cut [2,3,4,5,6] 4)=some (Hh a e pg 255):=by kernel_rfl
end
theorem Je {e:List Int} (he:cH e=true) {i:Nat} (h1:i<256):CM e i=vR e/2^i%2:=by
 have e1:(i:Int).tdiv 16=((i/16:Nat):Int):=by rw [Int.tdiv_eq_ediv_of_nonneg (by omega)];omega
 have e2:(i:Int).tmod 16=((i%16:Nat):Int):=by rw [Int.tmod_eq_emod_of_nonneg (by omega)];omega
 have w1:iw ((i/16:Nat):Int)=((i/16:Nat):Int):=wrap_i64 _ (by omega) (by omega)
 have w2:IntKind.u64.wrap ((i%16:Nat):Int)=((i%16:Nat):Int):=by rw [wrap_u64];omega
 have hd:e.getD (i/16) 0=vR e/65536^(i/16)%65536:=rJ 16 (i/16) (by omega) (cv.1 he).2
 unfold CM
 rw [e1,e2,w1,w2,Int.toNat_natCast,Int.toNat_natCast,Nat.zero_add,hd,dB _ _ _ (by show i%16≤64;omega)]
 have hs:vR e/65536^(i/16)/2^(i%16)=vR e/2^i:=by
  rw [Int.ediv_ediv_of_nonneg (Int.pow_nonneg (by omega)),show (65536:Int)=2^16 from rfl, ←Int.pow_mul, ←Int.pow_add]
  congr 2
  omega
 rw [←hs]
 generalize vR e/65536^(i/16)=Y
 have hr:i%16=0∨i%16=1∨i%16=2∨i%16=3∨i%16=4∨i%16=5∨i%16=6∨i%16=7∨i%16=8∨i%16=9∨i%16=10∨i%16=11∨i%16=12∨i%16=13∨i%16=14∨i%16=15:=by omega
 rcases hr with h|h|h|h|h|h|h|h|h|h|h|h|h|h|h|h<;>rw [h]<;>simp only [Int.reducePow]<;>rw [Int.tmod_eq_emod_of_nonneg (by omega)]<;>omega
theorem SI {o:List Int} {i:Nat} (ho:cH o=true) (h1:i<256):poO o i=true:=by
 have e1:(i:Int).tdiv 16=((i/16:Nat):Int):=by rw [Int.tdiv_eq_ediv_of_nonneg (by omega)];omega
 have e2:(i:Int).tmod 16=((i%16:Nat):Int):=by rw [Int.tmod_eq_emod_of_nonneg (by omega)];omega
 have w1:iw ((i/16:Nat):Int)=((i/16:Nat):Int):=wrap_i64 _ (by omega) (by omega)
 have w2:IntKind.u64.wrap ((i%16:Nat):Int)=((i%16:Nat):Int):=by rw [wrap_u64];omega
 have b:cL ((i/16:Nat):Int) 16=true:=by unfold cL;rw [decide_eq_true (by omega),decide_eq_true (by omega)];rfl
 unfold poO
 rw [e1,e2,w1,w2,ho,b,decide_eq_true (by omega),decide_eq_true (by omega),decide_eq_true (by omega)];rfl
noncomputable def Bg (a e:List Int) (j:Nat):List Int:=cw (tJ (vR a) (vR e/2^(256-j)).toNat)
theorem kO (x:Int) (n:Nat):0≤tJ x n∧tJ x n<Pm:=⟨Int.emod_nonneg _ (by have:=g9;omega),Int.emod_lt_of_pos _ g9⟩
theorem Y4 (a e:List Int) (j:Nat):vR (Bg a e j)=tJ (vR a) (vR e/2^(256-j)).toNat:=jh (kO _ _).1 (kO _ _).2
theorem Hi (x:Int) (m n:Nat):tJ x m*tJ x n%Pm=tJ x (m+n):=oe x m n
theorem SJ {x:Int} (h0:0≤x) (h1:x<Pm):tJ x 1=x:=by unfold tJ;rw [Int.pow_one,Int.emod_eq_of_lt h0 h1]
theorem SK {a e:List Int} (ha:kK a=true) (he:cH e=true) {j:Nat} (hj:j<256):Tr Tryz.prog none 0 poB (Hh a e (Bg a e j) (255-j)) .normal (Hh a e (Bg a e (j+1)) (255-((j+1:Nat):Int))):=by
 have hi:(255:Int)-j=((255-j:Nat):Int):=by omega
 have hw:iw (255-(j:Int)-1)=255-((j+1:Nat):Int):=by rw [iw,wrap_i64 _ (by omega) (by omega)];omega
 have ho:=SI (o:=Bg a e j) (i:=255-j) (bP _) (by omega)
 have hb:=Je he (i:=255-j) (by omega)
 have r:=dU he
 have ra:=Ja ha
 have hE:vR e/2^(256-(j+1))=2*(vR e/2^(256-j))+vR e/2^(255-j)%2:=by
  have h1:vR e/2^(256-j)=vR e/2^(255-j)/2:=by
   rw [Int.ediv_ediv_of_nonneg (Int.pow_nonneg (by omega)),show 256-j=(255-j)+1 by omega,Int.pow_succ]
  rw [h1,show 256-(j+1)=255-j by omega]
  omega
 have hnn:0≤vR e/2^(256-j):=Int.ediv_nonneg r.1 (Int.pow_nonneg (by omega))
 have RI:sqR (Bg a e j)=cw (tJ (vR a) (2*(vR e/2^(256-j))).toNat):=by
  unfold sqR
  rw [Y4,Hi]
  congr 2
  omega
 cases hc:(CM e ((255-j:Nat):Int)==1) with
 |true=>
  have k:=Y2 a e (Bg a e j) (255-j)
  rw [hw,hi] at k
  rw [hi]
  have h1:vR e/2^(255-j)%2=1:=by rw [beq_iff_eq,hb] at hc;exact hc
  refine Tr.post (Tr.cut (xp true true) 60 _ 4 (by omega) k ?_) (bq.same rfl ?_)
  ·rw [ho,hc,RI,bP,(eG.1 ha).1];rfl
  ·show VH _ _ _=VH _ _ _
   rw [RI,jh (kO _ _).1 (kO _ _).2]
   conv=>lhs;arg 3;arg 1;arg 1;arg 2;rw [←SJ ra.1 ra.2]
   rw [Hi,Bg,hE,h1,show (2*(vR e/2^(256-j))+1).toNat=(2*(vR e/2^(256-j))).toNat+1 by omega]
 |false=>
  have k:=SG a e (Bg a e j) (255-j)
  rw [hw,hi] at k
  rw [hi]
  have h1:vR e/2^(255-j)%2=0:=by rw [beq_eq_false_iff_ne,hb] at hc;omega
  refine Tr.post (Tr.cut (xp true false) 60 _ 4 (by omega) k ?_) (bq.same rfl ?_)
  ·rw [ho,hc];rfl
  ·show VH _ _ _=VH _ _ _
   rw [RI,Bg,hE,h1,Int.add_zero]
theorem SL {a e:List Int} (ha:kK a=true) (he:cH e=true):ai Tryz.prog 128 [.agg [.ints .i64 16 a],.agg [.ints .i64 16 e]] [] (.agg [.ints .i64 16 (cw (tJ (vR a) (vR e).toNat))]) []:=by
 have h0:Bg a e 0=pg:=by
  have r:=dU he
  rw [Bg,Nat.sub_zero,show vR e/2^256=0 by rw [show (2:Int)^256=115792089237316195423570985008687907853269984665640564039457584007913129639936 by decide];omega,mF]
  rw [show tJ (vR a) (Int.toNat 0)=1 by simp only [tJ,Int.toNat_zero,Int.pow_zero];decide]
  decide
 have bY:Tr Tryz.prog none 0 (aA 3 (aE Tryz.f128)) (Hh a e pg 255) .normal (Hh a e (Bg a e 256) (-1)):=by
  have key:=Tr.loop (P:=Tryz.prog) (ro:=none) (k:=0) 0 (c:=aA 3 (aE Tryz.f128)) (by kernel_rfl) (fun j:Nat=>Hh a e (Bg a e j) (255-j)) 256 (s':=Hh a e (Bg a e 256) (-1)) (fun j hj=>?_) ?_
  ·rw [←h0];exact key
  ·exact SK ha he hj
  ·have k:=Y3 a e (Bg a e 256) (-1)
   exact Tr.post (Tr.cut (xp false false) 60 _ 4 (by omega) k rfl) (bq.same rfl rfl)
 have ajI:cw (tJ (vR a) (vR e).toNat)=Bg a e 256:=by rw [Bg,Nat.sub_self,Int.pow_zero,Int.ediv_one]
 rw [ajI]
 refine ai.cu (xp true true) 60 4 0 Tryz.func128 (by simp) rfl (fun s' x h=>?_) (s:=Hh a e (Bg a e 256) (-1)) (p:=true) (by kernel_rfl) rfl rfl rfl
 refine bf.items (xp true true) 60 3 _ 4 (by simp) (SH a e) rfl (by decide) ?_
 exact bf.item 3 (by decide) bY h
noncomputable def CF:List SV→Option (SV×List Blk×Bool)
 | [.agg [.ints .i64 16 a],.agg [.ints .i64 16 e]]=>some (.agg [.ints .i64 16 (cw (tJ (vR a) (vR e).toNat))],[],kK a&&cH e)
 |_=>none
noncomputable def YL:Entry Tryz.prog:=.val 128 _ Tryz.func128 (by decide) rfl false 0 CF fun vs v new e=>by
 unfold CF at e
 split at e
 ·simp only [Option.some.injEq,Prod.mk.injEq,Bool.and_eq_true] at e
  obtain ⟨rfl,rfl,h1,h2⟩:=e
  exact SL h1 h2
 ·cases e
end Go.Proofs.YtibfpjeeanppjaaGreat.Re
namespace Go.Proofs.YtibfpjeeanppjaaGreat.Re
open Go Go.Sy Fe
theorem EU:ag Tryz.prog (mk [Al,Am,YL] []):=ah _ au.nil _ _
def xq:List Int:=2::List.replicate 15 0
theorem exp2:vR (DE u7 xq)=Pm-2∧cH (DE u7 xq)=true:=by
 rw [E0]
 refine ⟨?_,bP _⟩
 rw [show vR u7-vR xq=Pm-2 by decide]
 exact jh (by decide) (by decide)
theorem SM {a:List Int} (ha:kK a=true):ai Tryz.prog 90 [.agg [.ints .i64 16 a]] [] (.agg [.ints .i64 16 (cw (tJ (vR a) (Pm-2).toNat))]) []:=by
 have key:ai Tryz.prog 90 [.agg [.ints .i64 16 a]] [] (.agg [.ints .i64 16 (cw (tJ (vR a) (vR (DE u7 xq)).toNat))]) []:=
  aF EU 60 Tryz.func90 (p:=aa (aa true (aa true (cH u7&&cH xq&&decide (vR xq≤vR u7)))) (aa true (kK a&&cH (DE u7 xq)))) (by kernel_rfl)
   (by rw [ha,exp2.2];decide) rfl
 rw [exp2.1] at key
 exact key
noncomputable def CG:List SV→Option (SV×List Blk×Bool)
 | [.agg [.ints .i64 16 a]]=>some (.agg [.ints .i64 16 (cw (tJ (vR a) (Pm-2).toNat))],[],kK a)
 |_=>none
noncomputable def XI:Entry Tryz.prog:=.val 90 _ Tryz.func90 (by decide) rfl false 0 CG fun vs v new e=>by
 unfold CG at e
 split at e
 ·simp only [Option.some.injEq,Prod.mk.injEq] at e
  obtain ⟨rfl,rfl,h1⟩:=e
  exact SM h1
 ·cases e
end Go.Proofs.YtibfpjeeanppjaaGreat.Re
