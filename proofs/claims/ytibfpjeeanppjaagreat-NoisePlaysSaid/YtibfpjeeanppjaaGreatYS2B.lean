/- This file holds the texts S2A, S2B, a section each. No conditions beyond those in the theorems. -/
import Derived.Test.YtibfpjeeanppjaaGreatYShG
import Derived.Test.YtibfpjeeanppjaaGreatYShI
set_option linter.all false
set_option maxRecDepth 100000
section
namespace Go.Proofs.YtibfpjeeanppjaaGreat.S2
open Go Go.Sy Sh
abbrev V (n:Int):Int:=IntKind.u32.wrap n
theorem wrap_u32 (n:Int):IntKind.u32.wrap n=n%4294967296:=by simp [IntKind.wrap,IntKind.signed,IntKind.bits]
def mQ (x a:Int):Int:=gi .u32 (c7 .u32 x (bS .u64 (W a) 31).toNat) (bO .u32 x (W (32-bS .u64 (W a) 31)).toNat)
def Dm (x a:Int):Int:=mQ x (IntKind.i64.wrap (0-a))
def Wa (x a b c:Int):Int:=cm .u32 (cm .u32 (Dm x a) (Dm x b)) (Dm x c)
def af9:List SV→Option (SV×List Blk×Bool)
 | [.int .u32 x,.int .i64 a]=>some (.int .u32 (mQ x a),[],true)
 |_=>none
noncomputable def QF:Entry Tryz.prog:=.val 162 _ Tryz.func162 (by decide) rfl false 0 af9 fun vs v new e=>by
 unfold af9 at e
 split at e
 ·rename_i x a
  cases e
  exact aF mV 60 Tryz.func162 (p:=aa true (W0 (32-bS .u64 (W a) 31))) (by kernel_rfl) (by simp only [HT,av,and_self]) rfl
 ·cases e
noncomputable def tuC:bu:=mk (P:=Tryz.prog) [QF] []
theorem aax:ag Tryz.prog tuC:=ah _ au.nil _ _
def Pd:List SV→Option (SV×List Blk×Bool)
 | [.int .u32 x,.int .i64 a,.int .i64 b,.int .i64 c]=>some (.int .u32 (Wa x a b c),[],true)
 |_=>none
noncomputable def Pe:Entry Tryz.prog:=.val 163 _ Tryz.func163 (by decide) rfl false 0 Pd fun vs v new e=>by
 unfold Pd at e
 split at e
 ·rename_i x a b c
  cases e
  exact aF aax 60 Tryz.func163 (p:=true) (by kernel_rfl) rfl rfl
 ·cases e
noncomputable def gR:List Int:=(List.range 64).map fun i=>V (bO .u64 (kL.getD i 0) 32)
noncomputable def shC:bu:=mk (P:=Tryz.prog) [aay] []
theorem zj:ag Tryz.prog shC:=ah _ au.nil _ _
noncomputable def HU:List SV→Option (SV×List Blk×Bool)
 | []=>some (.agg [.ints .u32 64 gR],[],true)
 |_=>none
noncomputable def A0:Entry Tryz.prog:=.val 139 _ Tryz.func139 (by decide) rfl false 0 HU fun vs v new e=>by
 unfold HU at e
 split at e
 ·cases e
  exact aF zj 200 Tryz.func139 (p:=true) (by kernel_rfl) rfl rfl
 ·cases e
def wd (p:List Int) (i:Nat):Int:=gi .u32 (gi .u32 (gi .u32 (c7 .u32 (V (p.getD (4*i) 0)) 24) (c7 .u32 (V (p.getD (4*i+1) 0)) 16)) (c7 .u32 (V (p.getD (4*i+2) 0)) 8)) (V (p.getD (4*i+3) 0))
def Jy (p:List Int):List Int:=(List.range 16).map (wd p)++List.replicate 48 0
def nxW (y x a b:Int):Int:=V (V (V (cm .u32 (cm .u32 (mQ y (-17)) (mQ y (-19))) (bO .u32 y 10)+a)+cm .u32 (cm .u32 (mQ x (-7)) (mQ x (-18))) (bO .u32 x 3))+b)
def sched (w:List Int):Nat→List Int
 |0=>w
 |j+1=>(sched w j).set (16+j) (nxW ((sched w j).getD (14+j) 0) ((sched w j).getD (1+j) 0) ((sched w j).getD (9+j) 0) ((sched w j).getD j 0))
def NC (e f g:Int):Int:=cm .u32 (bS .u32 e f) (bS .u32 (cm .u32 IntKind.u32.max e) g)
def mjW (a b c:Int):Int:=cm .u32 (cm .u32 (bS .u32 a b) (bS .u32 a c)) (bS .u32 b c)
def t1W (s:List Int) (k w:Int):Int:=V (V (V (V (s.getD 7 0+Wa (s.getD 4 0) 6 11 25)+NC (s.getD 4 0) (s.getD 5 0) (s.getD 6 0))+k)+w)
def t2W (s:List Int):Int:=V (Wa (s.getD 0 0) 2 13 22+mjW (s.getD 0 0) (s.getD 1 0) (s.getD 2 0))
def Jz (s:List Int) (k w:Int):List Int:=[V (t1W s k w+t2W s),s.getD 0 0,s.getD 1 0,s.getD 2 0,V (s.getD 3 0+t1W s k w),s.getD 4 0,s.getD 5 0,s.getD 6 0]
def dW (s k w:List Int):Nat→List Int
 |0=>s
 |j+1=>Jz (dW s k w j) (k.getD j 0) (w.getD j 0)
def Dn (s t:List Int):List Int:=(List.range 8).map fun i=>V (s.getD i 0+t.getD i 0)
noncomputable def ij (s p k:List Int):List Int:=gY (Dn s (dW s k (sched (Jy p) 48) 64))
noncomputable def wC (b c:Bool):bu:=mk (P:=Tryz.prog) [Pe,QF] [] fun i=>if i=58 then some b else if i=105 then some c else none
theorem xu (b c:Bool):ag Tryz.prog (wC b c):=ah _ au.nil _ _
noncomputable def wC0:bu:=mk (P:=Tryz.prog) [Pe,QF] []
theorem Fo:ag Tryz.prog wC0:=ah _ au.nil _ _
noncomputable def wB:Code:=aE Tryz.f140
noncomputable def dg (st r:List Int) (n:Int):Blk:=.b [.ints .u32 8 st,.ro true .u8 r,.int .i64 n]
noncomputable def wS (st r:List Int) (n:Int) (kk w:List Int) (i:Int):St:=⟨slotsOf 195 [(0,.ptr 0 0 0),(2,.ptr 1 0 0),(6,.ptr 2 0 0),(8,.int .i64 i)],[dg st r n,.b [.ints .u32 64 kk],.b [.ints .u32 64 w]],true⟩
noncomputable def wR (st r:List Int) (n:Int) (kk w s:List Int) (i:Int):St:=⟨slotsOf 195 [(0,.ptr 0 0 0),(2,.ptr 1 0 0),(6,.ptr 2 0 0),(13,.ptr 3 0 0),(104,.int .i64 i)],[dg st r n,.b [.ints .u32 64 kk],.b [.ints .u32 64 w],.b [.ints .u32 8 (aH 8 s)]],true⟩
section
variable (st r p kk w s:List Int) (n i:Int)
theorem aaz:(aW Tryz.prog wC0 200 2 4 (atoms wB) ⟨aO Tryz.f140.ntmps [.ptr 0 0 0,.ro false .u8 (aH 64 p),.ptr 1 0 0],[dg st r n,.b [.ints .u32 64 kk]],true⟩).bind (St.cut [0,2,6,8] 3)=some (wS st r n kk (Jy p) 16):=by kernel_rfl
def nxI (w:List Int) (i:Int):Int:=nxW (w.getD (0+(IntKind.i64.wrap (i-2)).toNat) 0) (w.getD (0+(IntKind.i64.wrap (i-15)).toNat) 0) (w.getD (0+(IntKind.i64.wrap (i-7)).toNat) 0) (w.getD (0+(IntKind.i64.wrap (i-16)).toNat) 0)
def nxO (i:Int) (n:Nat):Bool:=aa (aa (aa (aa (aa (aa (aa (aa (aa (aa (aa true (decide (i<64))) (cL (IntKind.i64.wrap (i-15)) 64)) (decide (0+(IntKind.i64.wrap (i-15)).toNat<64))) (cL (IntKind.i64.wrap (i-2)) 64)) (decide (0+(IntKind.i64.wrap (i-2)).toNat<64)))
 (cL (IntKind.i64.wrap (i-7)) 64)) (decide (0+(IntKind.i64.wrap (i-7)).toNat<64))) (cL (IntKind.i64.wrap (i-16)) 64)) (decide (0+(IntKind.i64.wrap (i-16)).toNat<64))) (cL i 64)) (decide (0+i.toNat<64)&&decide (n=64))
theorem aaA:(exec Tryz.prog (wC true true) 200 2 (inner (inner (aA 4 wB))) (wS st r n kk w i)).bind (fun r=>(r.2.cut [0,2,6,8] 3).map fun q=>(r.1,q))=some (.normal,{wS st r n kk (w.set (0+i.toNat) (nxI w i)) (IntKind.i64.wrap (i+1)) with ob:=nxO i w.length}):=by kernel_rfl
theorem TW:(exec Tryz.prog (wC false true) 200 2 (inner (inner (aA 4 wB))) (wS st r n kk w i)).bind (fun r=>(r.2.cut [0,2,6,8] 3).map fun q=>(r.1,q))=some (.exit 2,{wS st r n kk w i with ob:=aa true (!decide (i<64))}):=by kernel_rfl
theorem agb:(aW Tryz.prog wC0 200 2 2 ((atoms wB).drop 5) (wS (aH 8 st) r n kk w i)).bind (St.cut [0,2,6,13,104] 4)=some (wR (aH 8 st) r n kk w st 0):=by kernel_rfl
def rnO (i:Int):Bool:=aa (aa (aa (aa (aa true (decide (i<64))) (cL i 64)) (decide (0+i.toNat<64))) (cL i 64)) (decide (0+i.toNat<64))
theorem agc:(exec Tryz.prog (wC true true) 200 2 (inner (inner (aA 7 wB))) (wR st r n kk w s i)).bind (fun r=>(r.2.cut [0,2,6,13,104] 4).map fun q=>(r.1,q))=some (.normal,{wR st r n kk w (Jz (aH 8 s) (kk.getD (0+i.toNat) 0) (w.getD (0+i.toNat) 0)) (IntKind.i64.wrap (i+1)) with ob:=rnO i}):=by kernel_rfl
theorem aaB:(exec Tryz.prog (wC true false) 200 2 (inner (inner (aA 7 wB))) (wR st r n kk w s i)).bind (fun r=>(r.2.cut [0,2,6,13,104] 4).map fun q=>(r.1,q))=some (.exit 4,{wR st r n kk w s i with ob:=aa true (!decide (i<64))}):=by kernel_rfl
end
theorem yV (w:List Int):∀j,(sched w j).length=w.length
 |0=>rfl
 |j+1=>by rw [sched,List.length_set];exact yV w j
theorem TX (p:List Int):(Jy p).length=64:=by simp [Jy]
theorem aaC {w:List Int} {j:Nat} (hj:j<48):nxI w (16+j)=nxW (w.getD (14+j) 0) (w.getD (1+j) 0) (w.getD (9+j) 0) (w.getD j 0):=by
 unfold nxI
 rw [wrap_i64 _ (by omega) (by omega),wrap_i64 _ (by omega) (by omega),wrap_i64 _ (by omega) (by omega),wrap_i64 _ (by omega) (by omega)]
 rw [show 0+((16:Int)+j-2).toNat=14+j by omega,show 0+((16:Int)+j-15).toNat=1+j by omega,show 0+((16:Int)+j-7).toNat=9+j by omega,show 0+((16:Int)+j-16).toNat=j by omega]
theorem Pf {j:Nat} (hj:j<48):nxO (16+j) 64=true:=by
 unfold nxO
 rw [wrap_i64 _ (by omega) (by omega),wrap_i64 _ (by omega) (by omega),wrap_i64 _ (by omega) (by omega),wrap_i64 _ (by omega) (by omega)]
 simp only [av,Bool.and_eq_true,decide_eq_true_eq,true_and]
 refine ⟨⟨⟨⟨⟨⟨⟨⟨⟨⟨?_,aK (by omega) (by omega)⟩,?_⟩,aK (by omega) (by omega)⟩,?_⟩,aK (by omega) (by omega)⟩,?_⟩,aK (by omega) (by omega)⟩,?_⟩,aK (by omega) (by omega)⟩,?_⟩<;>first|omega|exact ⟨by omega,trivial⟩
theorem Pg {j:Nat} (hj:j<64):rnO (j:Int)=true:=by
 unfold rnO
 simp only [av,decide_eq_true_eq,true_and]
 refine ⟨⟨⟨⟨?_,aK (by omega) (by omega)⟩,?_⟩,aK (by omega) (by omega)⟩,?_⟩<;>omega
theorem TY (s:List Int) (k w:Int):aH 8 (Jz s k w)=Jz s k w:=rfl
theorem Dp (s k w:List Int):∀j,aH 8 (dW (aH 8 s) k w j)=dW (aH 8 s) k w j
 |0=>aG (aM _ _)
 |_+1=>TY _ _ _
theorem aaD (st r p kk:List Int) (n:Int):Tr Tryz.prog none 2 (aA 4 wB) (wS (aH 8 st) r n kk (Jy p) 16) .normal (wS (aH 8 st) r n kk (sched (Jy p) 48) 64):=by
 have key:=Tr.loop (P:=Tryz.prog) (ro:=none) (k:=2) 2 (c:=aA 4 wB) (by kernel_rfl) (fun j:Nat=>wS (aH 8 st) r n kk (sched (Jy p) j) (16+j)) 48 (s':=wS (aH 8 st) r n kk (sched (Jy p) 48) 64) (fun j hj=>?_) ?_
 ·exact key
 ·have k:=aaA (aH 8 st) r kk (sched (Jy p) j) n (16+j)
  rw [yV,TX,Pf hj,aaC hj,wrap_i64 _ (by omega) (by omega)] at k
  refine Tr.post (Tr.cut (xu true true) 200 _ 3 (by omega) k rfl) (bq.same ?_ ?_)
  ·show (wS _ _ _ _ _ _).t=(wS _ _ _ _ _ _).t
   rw [show ((16:Int)+(j:Int)+1)=16+((j+1:Nat):Int) by omega];rfl
  ·show (wS _ _ _ _ _ _).h=(wS _ _ _ _ _ _).h
   rw [show 0+((16:Int)+(j:Int)).toNat=16+j by omega];rfl
 ·have k:=TW (aH 8 st) r kk (sched (Jy p) 48) n 64
  exact Tr.post (Tr.cut (xu false true) 200 _ 3 (by omega) k rfl) (bq.same rfl rfl)
theorem TZ (st r kk w:List Int) (n:Int):Tr Tryz.prog none 2 (aA 7 wB) (wR (aH 8 st) r n kk w st 0) .normal (wR (aH 8 st) r n kk w (dW (aH 8 st) kk w 64) 64):=by
 have key:=Tr.loop (P:=Tryz.prog) (ro:=none) (k:=2) 4 (c:=aA 7 wB) (by kernel_rfl) (fun j:Nat=>wR (aH 8 st) r n kk w (dW (aH 8 st) kk w j) j) 64 (s':=wR (aH 8 st) r n kk w (dW (aH 8 st) kk w 64) 64) (fun j hj=>?_) ?_
 ·refine Tr.pre key (bq.same rfl ?_)
  show (wR _ _ _ _ _ _ _).h=(wR _ _ _ _ _ _ _).h
  unfold wR
  simp only [dW]
  rw [aG (aM 8 st)]
 ·have k:=agc (aH 8 st) r kk w (dW (aH 8 st) kk w j) n j
  rw [Pg hj,wrap_i64 _ (by omega) (by omega),Dp] at k
  refine Tr.post (Tr.cut (xu true true) 200 _ 4 (by omega) k rfl) (bq.same ?_ ?_)
  ·show (wR _ _ _ _ _ _ _).t=(wR _ _ _ _ _ _ _).t
   rw [show ((j:Int)+1)=((j+1:Nat):Int) by omega];rfl
  ·show (wR _ _ _ _ _ _ _).h=(wR _ _ _ _ _ _ _).h
   rw [show 0+(j:Int).toNat=j by omega];rfl
 ·have k:=aaB (aH 8 st) r kk w (dW (aH 8 st) kk w 64) n 64
  exact Tr.post (Tr.cut (xu true false) 200 _ 4 (by omega) k rfl) (bq.same rfl rfl)
theorem nq {st p kk:List Int} (r:List Int) (n:Int) (hs:st.length=8) (hp:p.length=64):ai Tryz.prog 140 [.ptr 0 0 0,.ro false .u8 p,.ptr 1 0 0] [dg st r n,.b [.ints .u32 64 kk]] (.aT []) [dg (ij st p kk) r n,.b [.ints .u32 64 kk]]:=by
 have key:ai Tryz.prog 140 [.ptr 0 0 0,.ro false .u8 (aH 64 p),.ptr 1 0 0] [dg (aH 8 st) r n,.b [.ints .u32 64 kk]] (.aT []) [dg (ij (aH 8 st) p kk) r n,.b [.ints .u32 64 kk]]:=by
  rw [ij,aD]
  refine ai.cu Fo 200 8 2 Tryz.func140 (by simp) rfl (fun s' x h=>?_) (s:=wR (aH 8 st) r n kk (sched (Jy p) 48) (dW (aH 8 st) kk (sched (Jy p) 48) 64) 64) (p:=true) (by rw [←Dp];kernel_rfl) rfl rfl rfl
  refine bf.items Fo 200 4 _ 3 (by simp) (aaz (aH 8 st) r p kk n) rfl (by decide) ?_
  refine bf.item 4 (by decide) (aaD st r p kk n) ?_
  refine bf.items Fo 200 2 _ 4 (by simp) (agb st r kk _ n 64) rfl (by decide) ?_
  exact bf.item 7 (by decide) (TZ st r kk _ n) h
 rw [aG hp,aG hs] at key
 exact key
def UM (vs:List SV) (_:List Blk):List Nat:=match vs with
 | [.ptr a _ _,_,.ptr b _ _]=>[a,b]
 |_=>[]
noncomputable def xy:List SV→List Blk→Option (SV×List Blk×Bool)
 | [.ptr 0 0 0,.ro false .u8 p,.ptr 1 0 0],[.b [.ints .u32 8 st,.ro true .u8 r,.int .i64 n],.b [.ints .u32 64 kk]]=>some (.aT [],[dg (ij st p kk) r n,.b [.ints .u32 64 kk]],decide (st.length=8)&&decide (p.length=64))
 |_,_=>none
noncomputable def tj:Entry Tryz.prog:=.mut 140 _ Tryz.func140 (by decide) rfl UM 0 xy fun vs h0 v h1 e=>by
 unfold xy at e
 split at e
 ·simp only [Option.some.injEq,Prod.mk.injEq,Bool.and_eq_true,decide_eq_true_eq] at e
  obtain ⟨rfl,rfl,hs,hp⟩:=e
  exact nq _ _ hs hp
 ·cases e
end Go.Proofs.YtibfpjeeanppjaaGreat.S2
end
section
namespace Go.Proofs.YtibfpjeeanppjaaGreat.S2
open Go Go.Sy Sh
noncomputable def iQ (p kk st:List Int):Nat→List Int
 |0=>st
 |j+1=>ij (iQ p kk st j) ((p.drop (64*j)).take 64) kk
theorem Fq (s p k:List Int):(ij s p k).length=8:=by rw [ij,aD];simp [Dn]
theorem oC {p kk st:List Int} (h:st.length=8):∀j,(iQ p kk st j).length=8
 |0=>h
 |_+1=>Fq _ _ _
noncomputable def qF:List Int:=(List.range 8).map fun i=>V (bO .u64 (bL.getD i 0) 32)
theorem qG:qF.length=8:=by simp [qF]
noncomputable def nwC:bu:=mk (P:=Tryz.prog) [vH] []
theorem AI:ag Tryz.prog nwC:=ah _ au.nil _ _
theorem nu:ai Tryz.prog 106 [] [] (.ptr 0 0 0) [dg qF [] 0]:=by
 have k:ai Tryz.prog 106 [] [] (.ptr 0 0 0) [.b [.ints .u32 8 qF,.nl (.slice none 0 0),.int .i64 0]]:=
  aQ AI 200 Tryz.func106 1 (by simp) (p:=true) (by kernel_rfl) rfl rfl rfl
 refine ai.conv k trivial trivial (VE.refl _) ⟨⟨rfl,?_⟩,trivial⟩
 rintro e xs ⟨zs,⟨y,us,hy,h2,rfl⟩,rfl⟩
 have hy':y= .slice none 0 0:=hy
 subst hy'
 exact ⟨_,⟨.slice none 0 0,us,.inl ⟨rfl,none,0,rfl,fun _=>rfl⟩,h2,rfl⟩,rfl⟩
noncomputable def newF:List SV→Option (SV×List Blk×Bool)
 | []=>some (.ptr 0 0 0,[dg qF [] 0],true)
 |_=>none
noncomputable def Bt:Entry Tryz.prog:=.val 106 _ Tryz.func106 (by decide) rfl false 1 newF fun vs v new e=>by
 unfold newF at e
 split at e
 ·cases e;exact nu
 ·cases e
noncomputable def adC (b:Bool):bu:=mk (P:=Tryz.prog) [jf,A0,tj,Ph] [] fun i=>if i=27 then some b else none
theorem A1 (b:Bool):ag Tryz.prog (adC b):=ah _ au.nil _ _
noncomputable def aB:Code:=aE Tryz.f107
noncomputable def aS (st r b:List Int) (n:Int) (kk all:List Int):St:=⟨slotsOf 39 [(0,.ptr 0 0 0),(4,.ro true .u8 all),(5,.ptr 2 0 0)],[dg st r n,.b [.ro true .u8 r,.ro false .u8 b],.b [.ints .u32 64 kk]],true⟩
section
variable (st r b kk all:List Int) (n:Int)
theorem T0:(aW Tryz.prog (adC true) 60 1 5 (atoms aB) ⟨aO Tryz.f107.ntmps [.ptr 0 0 0,.ro false .u8 b],[dg st r n],true⟩).bind (St.cut [0,4,5] 3)=
  some {aS st r b (IntKind.i64.wrap (n+b.length)) gR [r,b].flatten with ob:=aa true (aa true (decide ([r,b].flatten.length≤274877906944)&&true))}:=by kernel_rfl
theorem aaE:(exec Tryz.prog (adC true) 60 1 (inner (inner (aA 5 aB))) (aS st r b n kk all)).bind (fun r=>(r.2.cut [0,4,5] 3).map fun q=>(r.1,q))=
  some (.normal,{aS (ij st (all.take 64) kk) r b n kk (all.drop 64) with ob:=aa (aa (aa (aa true (decide ((all.length:Int)≥64))) (aa true (true&&decide ((64:Int)≤all.length)))) (aa true (decide (st.length=8)&&decide ((all.take 64).length=64)))) (aa true (aa true (true&&decide ((64:Int)≤all.length))))}):=by kernel_rfl
theorem aaF:(exec Tryz.prog (adC false) 60 1 (inner (inner (aA 5 aB))) (aS st r b n kk all)).bind (fun r=>(r.2.cut [0,4,5] 3).map fun q=>(r.1,q))=
  some (.exit 0,{aS st r b n kk all with ob:=aa true (!decide ((all.length:Int)≥64))}):=by kernel_rfl
end
theorem T1 {st r b kk all:List Int} (n:Int) (hs:st.length=8):Tr Tryz.prog none 1 (aA 5 aB) (aS st r b n kk all) .normal (aS (iQ all kk st (all.length/64)) r b n kk (all.drop (64*(all.length/64)))):=by
 have key:=Tr.loop (P:=Tryz.prog) (ro:=none) (k:=1) 0 (c:=aA 5 aB) (by kernel_rfl) (fun j:Nat=>aS (iQ all kk st j) r b n kk (all.drop (64*j))) (all.length/64) (s':=aS (iQ all kk st (all.length/64)) r b n kk (all.drop (64*(all.length/64)))) (fun j hj=>?_) ?_
 ·exact key
 ·have k:=aaE (iQ all kk st j) r b kk (all.drop (64*j)) n
  have hl:64≤(all.drop (64*j)).length:=by rw [List.length_drop];omega
  rw [List.drop_drop,decide_eq_true (show ((all.drop (64*j)).length:Int)≥64 by omega),decide_eq_true (oC hs j),decide_eq_true (show ((all.drop (64*j)).take 64).length=64 by rw [List.length_take];omega)] at k
  refine Tr.post (Tr.cut (A1 true) 60 _ 3 (by omega) k rfl) (bq.same ?_ rfl)
  show (aS [] r b 0 kk _).t=(aS [] r b 0 kk _).t
  rw [show 64*j+64=64*(j+1) by omega]
 ·have k:=aaF (iQ all kk st (all.length/64)) r b kk (all.drop (64*(all.length/64))) n
  have hl:¬((all.drop (64*(all.length/64))).length:Int)≥64:=by rw [List.length_drop];omega
  exact Tr.post (Tr.cut (A1 false) 60 _ 3 (by omega) k (by rw [decide_eq_false hl];rfl)) (bq.same rfl rfl)
theorem DI {st r b:List Int} (n:Int) (hs:st.length=8) (hb:r.length+b.length<274877900000):ai Tryz.prog 107 [.ptr 0 0 0,.ro false .u8 b] [dg st r n] (.aT [])
  [dg (iQ (r++b) gR st ((r++b).length/64)) ((r++b).drop (64*((r++b).length/64))) (IntKind.i64.wrap (n+b.length))]:=by
 have hl:(r++b).length=r.length+b.length:=List.length_append
 have hh:=T0 st r b n
 have e:[r,b].flatten=r++b:=by simp
 rw [e,decide_eq_true (show (r++b).length≤274877906944 by omega)] at hh
 generalize r++b=all at*
 have hd:(all.drop (64*(all.length/64))).length≤274877906944:=by rw [List.length_drop];omega
 have k2:ai Tryz.prog 107 [.ptr 0 0 0,.ro false .u8 b] [dg st r n] (.aT [])
   [.b [.ints .u32 8 (iQ all gR st (all.length/64)),.sl 3 0 0 1 (all.drop (64*(all.length/64))).length (all.drop (64*(all.length/64))).length false true,.int .i64 (IntKind.i64.wrap (n+b.length))],.b [.ro true .u8 r,.ro false .u8 b],.b [.ints .u32 64 gR],.b [.ints .u8 (all.drop (64*(all.length/64))).length (all.drop (64*(all.length/64)))]]:=by
  refine ai.cu (A1 true) 60 6 4 Tryz.func107 (by simp) rfl (fun s' x h=>?_) (s:=aS (iQ all gR st (all.length/64)) r b (IntKind.i64.wrap (n+b.length)) gR (all.drop (64*(all.length/64))))
   (p:=aa (aa true (aa true (decide ((all.drop (64*(all.length/64))).length≤274877906944)))) true) (by kernel_rfl) (by rw [decide_eq_true hd];rfl) rfl rfl
  refine bf.items (A1 true) 60 5 _ 3 (by simp) hh rfl (by decide) ?_
  exact bf.item 5 (by decide) (Tr.pre (T1 _ hs) (bq.same rfl rfl)) h
 generalize all.drop (64*(all.length/64))=al at*
 have k3:=ai.fz 3 1 (by simp) (by simp) k2 (u:=.aT []) (h2:=[dg (iQ all gR st (all.length/64)) al (IntKind.i64.wrap (n+b.length))]) (p:=aa (decide (al.length=al.length)) (aa true (aa true (true&&(true&&decide (al.length=al.length)))))) (by kernel_rfl) (by rw [decide_eq_true rfl];rfl)
 exact k3
def agd (vs:List SV) (_:List Blk):List Nat:=match vs with
 | .ptr a _ _::_=>[a]
 |_=>[]
noncomputable def J4:List SV→List Blk→Option (SV×List Blk×Bool)
 | [.ptr 0 0 0,.ro false .u8 b],[.b [.ints .u32 8 st,.ro true .u8 r,.int .i64 n]]=>some (.aT [],[dg (iQ (r++b) gR st ((r++b).length/64)) ((r++b).drop (64*((r++b).length/64))) (IntKind.i64.wrap (n+b.length))],decide (st.length=8)&&decide (r.length+b.length<274877900000))
 |_,_=>none
noncomputable def vr:Entry Tryz.prog:=.mut 107 _ Tryz.func107 (by decide) rfl agd 0 J4 fun vs h0 v h1 e=>by
 unfold J4 at e
 split at e
 ·simp only [Option.some.injEq,Prod.mk.injEq,Bool.and_eq_true,decide_eq_true_eq] at e
  obtain ⟨rfl,rfl,hs,hb⟩:=e
  exact DI _ hs hb
 ·cases e
noncomputable def suC (x:Bool):bu:=mk (P:=Tryz.prog) [HV,y4,A0,tj] [] fun i=>if i=9 then some x else none
theorem A2 (x:Bool):ag Tryz.prog (suC x):=ah _ au.nil _ _
noncomputable def ak4:bu:=mk (P:=Tryz.prog) [HV,y4,A0,tj] []
theorem T4:ag Tryz.prog ak4:=ah _ au.nil _ _
noncomputable def uB:Code:=aE Tryz.f108
noncomputable def uC:Code:=aA 6 uB
noncomputable def iB:List Int:=List.replicate 32 0
noncomputable def uT:List (Option SV):=slotsOf 52 [(2,.ptr 1 0 0),(3,.ptr 2 0 0),(4,.ptr 3 0 0),(25,.fn (.func 164) [] [.ptr 4 0 0,.ptr 5 0 0])]
noncomputable def uK (uG r:List Int) (n:Int) (p kk st:List Int):List Blk:=[dg uG r n,.b [.ints .u8 32 iB],dg st r n,.b [.ints .u32 64 kk],.b [.ro false .u8 p],.b [.int .i64 64]]
noncomputable def uH (uG r:List Int) (n:Int) (p kk st:List Int) (l:Nat):List Blk:=[dg uG r n,.b [.ints .u8 32 iB],dg st r n,.b [.ints .u32 64 kk],.b [.ro false .u8 p],.b [.int .i64 64],.g (some (FB uC uT l))]
noncomputable def uS (uG r:List Int) (n:Int) (p kk st:List Int) (l:Nat) (i:Int):St:=⟨slotsOf 31 [(0,.fn (.yield l) [] []),(1,.ptr 4 0 0),(2,.ptr 5 0 0),(4,.int .i64 i)],uH uG r n p kk st l,true⟩
def xQ (p:List Int) (i:Int):Int:=IntKind.i64.wrap (i+if ((p.drop i.toNat).length:Int)<64 then ((p.drop i.toNat).length:Int) else 64)
def JJ (p:List Int) (i:Int):List Int:=(p.drop i.toNat).take ((xQ p i).toNat-i.toNat)
def WC (p st:List Int) (i:Int) (l:Nat):Bool:=
 aa (aa (aa (aa true (decide (i<p.length))) (aa true (aa true (decide (0≤i)&&decide (i≤p.length)))))
  (aa (decide (0≤xQ p i)&&decide (xQ p i≤p.length)) (aa (decide (0≤xQ p i)&&decide (xQ p i≤(xQ p i).toNat)) (decide (0≤i)&&decide (i≤(xQ p i).toNat)))))
  (aa (aa (aa (decide (l=l)) (decide (l=l))) (aa true (decide (st.length=8)&&decide ((JJ p i).length=64)))) (decide (l=l)))
section
variable (uG r p kk st:List Int) (n:Int) (l:Nat) (i:Int)
theorem DL:(exec Tryz.prog (suC true) 60 7 (inner (inner (aA 1 PT))) (uS uG r n p kk st l i)).bind (fun r=>(r.2.cut [0,1,2,4] 7).map fun q=>(r.1,q))=
  some (.normal,{uS uG r n p kk (ij st (JJ p i) kk) l (IntKind.i64.wrap (i+64)) with ob:=WC p st i l}):=by kernel_rfl
theorem DM:(exec Tryz.prog (suC false) 60 7 (inner (inner (aA 1 PT))) (uS uG r n p kk st l i)).bind (fun r=>(r.2.cut [0,1,2,4] 7).map fun q=>(r.1,q))=
  some (.exit 0,{uS uG r n p kk st l i with ob:=aa true (!decide (i<p.length))}):=by kernel_rfl
theorem vu:(aW Tryz.prog (suC true) 60 7 1 (atoms PT) ⟨aO Tryz.f164.ntmps [.fn (.yield l) [] [],.ptr 4 0 0,.ptr 5 0 0],uH uG r n p kk st l,true⟩).bind (St.cut [0,1,2,4] 7)=some (uS uG r n p kk st l 0):=by kernel_rfl
end
theorem J7 {p st:List Int} (hs:st.length=8) {N j:Nat} (hp:p.length=64*N) (hj:j<N) (hb:N<10000000000) (l:Nat):JJ p (64*j:Nat)=(p.drop (64*j)).take 64∧WC p st (64*j:Nat) l=true:=by
 have hd:(p.drop (64*j)).length=64*N-64*j:=by rw [List.length_drop,hp]
 have he:xQ p (64*j:Nat)=((64*j+64:Nat):Int):=by
  unfold xQ
  rw [Int.toNat_natCast,hd,if_neg (by omega),wrap_i64 _ (by omega) (by omega)];omega
 have hw:JJ p (64*j:Nat)=(p.drop (64*j)).take 64:=by
  unfold JJ
  rw [he,Int.toNat_natCast,Int.toNat_natCast,Nat.add_sub_cancel_left]
 refine ⟨hw,?_⟩
 have hl:((p.drop (64*j)).take 64).length=64:=by rw [List.length_take,hd];omega
 unfold WC
 rw [hw,he,hl,hs]
 simp only [av,Bool.and_eq_true,decide_eq_true_eq,true_and,and_true,Int.toNat_natCast,hp]
 repeat' apply And.intro
 all_goals omega
theorem T5 (uG r:List Int) (n:Int) {p:List Int} {N:Nat} (hp:p.length=64*N) (hb:N<10000000000) (kk:List Int) {st:List Int} (hs:st.length=8) (l:Nat):
  ai Tryz.prog 164 [.fn (.yield l) [] [],.ptr 4 0 0,.ptr 5 0 0] (uH uG r n p kk st l) (.aT []) (uH uG r n p kk (iQ p kk st N) l):=by
 have bY:Tr Tryz.prog none 7 (aA 1 PT) (uS uG r n p kk st l 0) .normal (uS uG r n p kk (iQ p kk st N) l (64*N:Nat)):=by
  have key:=Tr.loop (P:=Tryz.prog) (ro:=none) (k:=7) 0 (c:=aA 1 PT) (by kernel_rfl) (fun j:Nat=>uS uG r n p kk (iQ p kk st j) l (64*j:Nat)) N (s':=uS uG r n p kk (iQ p kk st N) l (64*N:Nat)) (fun j hj=>?_) ?_
  ·exact key
  ·obtain ⟨h1,h2⟩:=J7 (oC (p:=p) (kk:=kk) hs j) hp hj hb l
   have k:=DL uG r p kk (iQ p kk st j) n l (64*j:Nat)
   rw [h1,h2,wrap_i64 _ (by omega) (by omega)] at k
   refine Tr.post (Tr.cut (A2 true) 60 _ 7 (by omega) k rfl) (bq.same ?_ rfl)
   show (uS uG r n p kk st l _).t=(uS uG r n p kk st l _).t
   rw [show ((64*j:Nat):Int)+64=((64*(j+1):Nat):Int) by omega]
  ·have k:=DM uG r p kk (iQ p kk st N) n l (64*N:Nat)
   exact Tr.post (Tr.cut (A2 false) 60 _ 7 (by omega) k (by rw [hp];simp [aa])) (bq.same rfl rfl)
 refine ai.mk (vs:=[]) Tryz.func164 rfl (x:=.normal) (s:=uS uG r n p kk (iQ p kk st N) l (64*N:Nat)) ?_ (.inr rfl) (by kernel_rfl)
 refine bf.items (A2 true) 60 1 _ 7 (by simp [uH]) (vu uG r p kk st n l) rfl (by decide) ?_
 exact bf.item 1 (by decide) bY ⟨rfl,rfl⟩
def D5 (s:List Int):List Int:=(List.range 32).map fun i=>IntKind.u8.wrap (bO .u32 (s.getD (i/4) 0) (24-8*(i%4)))
def ow (r:List Int) (n:Int):List Int:=eJ r 64 56++JA n
theorem Pj (r:List Int) (n:Int):(ow r n).length=64*((ow r n).length/64)∧(ow r n).length≤r.length+73:=by
 have h:=(sg (len:=r.length) (show 56<64 by omega)).1
 have hK:cU r.length 64 56<64:=Nat.mod_lt _ (by omega)
 have hl:(ow r n).length=r.length+1+cU r.length 64 56+8:=by unfold ow;rw [List.length_append,iM];rfl
 rw [hl];omega
noncomputable def nB (st r:List Int) (n:Int):List Int:=D5 (iQ (ow r n) gR st ((ow r n).length/64))
theorem Is (st r:List Int) (n:Int):(nB st r n).length=32:=by simp [nB,D5]
theorem T6 (st r:List Int) (n:Int):(aW Tryz.prog (suC true) 60 1 6 (atoms uB) ⟨aO Tryz.f108.ntmps [.ptr 0 0 0],[dg st r n],true⟩).bind (St.cut [2,3,4,25] 6)=
  some ⟨uT,uK st r n (ow r n) gR st,aa true (aa true (decide (r.length<274877900000)))⟩:=by kernel_rfl
theorem aaG {st r:List Int} (n:Int) (hs:st.length=8) (hr:r.length<274877900000):ai Tryz.prog 108 [.ptr 0 0 0] [dg st r n] (.agg [.ints .u8 32 (nB st r n)]) [dg st r n]:=by
 obtain ⟨hp,hq⟩:=Pj r n
 unfold nB
 generalize hN:(ow r n).length/64=N at hp
 refine ai.cu T4 60 7 1 Tryz.func108 (by simp) rfl (fun s' x h=>?_) (s:=⟨uT,uK st r n (ow r n) gR (iQ (ow r n) gR st N)++[.gap],true⟩) (p:=true) (by kernel_rfl) rfl rfl rfl
 refine bf.items (A2 true) 60 6 _ 6 (by simp) (T6 st r n) (by rw [decide_eq_true hr];rfl) (by decide) ?_
 refine bf.item 6 (by decide) ?_ h
 exact Tr.y6 0 (by kernel_rfl) (f:=164) (first:=[]) (kG:=[.ptr 4 0 0,.ptr 5 0 0]) true Tryz.func164 (by decide) rfl (by kernel_rfl) (fun l=>T5 st r n hp (by omega) gR hs l)
  (fun l=>⟨_,rfl,rfl,by simp [FB],rfl⟩) (fun l=>rfl)
def iC (vs:List SV):List Nat:=match vs with
 | [.ptr a _ _]=>[a]
 |_=>[]
noncomputable def agf:List SV→List Blk→Option (SV×Bool)
 | [.ptr 0 0 0],[.b [.ints .u32 8 st,.ro true .u8 r,.int .i64 n]]=>some (.agg [.ints .u8 32 (nB st r n)],decide (st.length=8)&&decide (r.length<274877900000))
 |_,_=>none
noncomputable def acQ:Entry Tryz.prog:=.Qo 108 _ Tryz.func108 (by decide) rfl iC agf fun vs h0 v e=>by
 unfold agf at e
 split at e
 ·simp only [Option.some.injEq,Prod.mk.injEq,Bool.and_eq_true,decide_eq_true_eq] at e
  obtain ⟨rfl,hs,hb⟩:=e
  exact aaG _ hs hb
 ·cases e
end Go.Proofs.YtibfpjeeanppjaaGreat.S2
end
