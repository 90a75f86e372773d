/- This file holds the texts S2A, S2B, a section each. No conditions beyond those in the theorems. -/
import Derived.Test.YtibfpjeeanppjaaGreatUShG
import Derived.Test.YtibfpjeeanppjaaGreatUShI
set_option linter.all false
set_option maxRecDepth 100000
section
namespace Go.Proofs.YtibfpjeeanppjaaGreat.S2
open Go Go.Sy Sh
abbrev V (n:Int):Int:=IntKind.u32.wrap n
theorem wrap_u32 (n:Int):IntKind.u32.wrap n=n%4294967296:=by simp [IntKind.wrap,IntKind.signed,IntKind.bits]
def lS (x a:Int):Int:=gj .u32 (cV .u32 x (bR .u64 (W a) 31).toNat) (bh .u32 x (W (32-bR .u64 (W a) 31)).toNat)
def Ba (x a:Int):Int:=lS x (IntKind.i64.wrap (0-a))
def Tk (x a b c:Int):Int:=cj .u32 (cj .u32 (Ba x a) (Ba x b)) (Ba x c)
def acz:List SV→Option (SV×List Blk×Bool)
 | [.int .u32 x,.int .i64 a]=>some (.int .u32 (lS x a),[],true)
 |_=>none
noncomputable def OA:Entry Tryz.prog:=.val 162 _ Tryz.func162 (by decide) rfl false 0 acz fun vs v new e=>by
 unfold acz at e
 split at e
 ·rename_i x a
  cases e
  exact aP lV 60 Tryz.func162 (p:=aa true (W0 (32-bR .u64 (W a) 31))) (by kernel_rfl) (by simp only [Fj,au,and_self]) rfl
 ·cases e
noncomputable def tuC:bK:=mk (P:=Tryz.prog) [OA] []
theorem Xr:ag Tryz.prog tuC:=ai _ aF.nil _ _
def MO:List SV→Option (SV×List Blk×Bool)
 | [.int .u32 x,.int .i64 a,.int .i64 b,.int .i64 c]=>some (.int .u32 (Tk x a b c),[],true)
 |_=>none
noncomputable def MP:Entry Tryz.prog:=.val 163 _ Tryz.func163 (by decide) rfl false 0 MO fun vs v new e=>by
 unfold MO at e
 split at e
 ·rename_i x a b c
  cases e
  exact aP Xr 60 Tryz.func163 (p:=true) (by kernel_rfl) rfl rfl
 ·cases e
noncomputable def gB:List Int:=(List.range 64).map fun i=>V (bh .u64 (kL.getD i 0) 32)
noncomputable def shC:bK:=mk (P:=Tryz.prog) [Xs] []
theorem Xt:ag Tryz.prog shC:=ai _ aF.nil _ _
noncomputable def Fk:List SV→Option (SV×List Blk×Bool)
 | []=>some (.agg [.ints .u32 64 gB],[],true)
 |_=>none
noncomputable def yX:Entry Tryz.prog:=.val 139 _ Tryz.func139 (by decide) rfl false 0 Fk fun vs v new e=>by
 unfold Fk at e
 split at e
 ·cases e
  exact aP Xt 200 Tryz.func139 (p:=true) (by kernel_rfl) rfl rfl
 ·cases e
def wd (p:List Int) (i:Nat):Int:=gj .u32 (gj .u32 (gj .u32 (cV .u32 (V (p.getD (4*i) 0)) 24) (cV .u32 (V (p.getD (4*i+1) 0)) 16)) (cV .u32 (V (p.getD (4*i+2) 0)) 8)) (V (p.getD (4*i+3) 0))
def Dr (p:List Int):List Int:=(List.range 16).map (wd p)++List.replicate 48 0
def nxW (y x a b:Int):Int:=V (V (V (cj .u32 (cj .u32 (lS y (-17)) (lS y (-19))) (bh .u32 y 10)+a)+cj .u32 (cj .u32 (lS x (-7)) (lS x (-18))) (bh .u32 x 3))+b)
def sched (w:List Int):Nat→List Int
 |0=>w
 |j+1=>(sched w j).set (16+j) (nxW ((sched w j).getD (14+j) 0) ((sched w j).getD (1+j) 0) ((sched w j).getD (9+j) 0) ((sched w j).getD j 0))
def chW (e f g:Int):Int:=cj .u32 (bR .u32 e f) (bR .u32 (cj .u32 IntKind.u32.max e) g)
def mjW (a b c:Int):Int:=cj .u32 (cj .u32 (bR .u32 a b) (bR .u32 a c)) (bR .u32 b c)
def t1W (s:List Int) (k w:Int):Int:=V (V (V (V (s.getD 7 0+Tk (s.getD 4 0) 6 11 25)+chW (s.getD 4 0) (s.getD 5 0) (s.getD 6 0))+k)+w)
def t2W (s:List Int):Int:=V (Tk (s.getD 0 0) 2 13 22+mjW (s.getD 0 0) (s.getD 1 0) (s.getD 2 0))
def GP (s:List Int) (k w:Int):List Int:=[V (t1W s k w+t2W s),s.getD 0 0,s.getD 1 0,s.getD 2 0,V (s.getD 3 0+t1W s k w),s.getD 4 0,s.getD 5 0,s.getD 6 0]
def dG (s k w:List Int):Nat→List Int
 |0=>s
 |j+1=>GP (dG s k w j) (k.getD j 0) (w.getD j 0)
def xm (s t:List Int):List Int:=(List.range 8).map fun i=>V (s.getD i 0+t.getD i 0)
noncomputable def eZ (s p k:List Int):List Int:=gz (xm s (dG s k (sched (Dr p) 48) 64))
noncomputable def wC (b c:Bool):bK:=mk (P:=Tryz.prog) [MP,OA] [] fun i=>if i=58 then some b else if i=105 then some c else none
theorem Fl (b c:Bool):ag Tryz.prog (wC b c):=ai _ aF.nil _ _
noncomputable def wC0:bK:=mk (P:=Tryz.prog) [MP,OA] []
theorem C8:ag Tryz.prog wC0:=ai _ aF.nil _ _
noncomputable def wB:Code:=aH Tryz.f140
noncomputable def dg (st r:List Int) (n:Int):Blk:=.b [.ints .u32 8 st,.ro true .u8 r,.int .i64 n]
noncomputable def wS (st r:List Int) (n:Int) (kk w:List Int) (i:Int):St:=⟨slotsOf 195 [(0,.ptr 0 0 0),(2,.ptr 1 0 0),(6,.ptr 2 0 0),(8,.int .i64 i)],[dg st r n,.b [.ints .u32 64 kk],.b [.ints .u32 64 w]],true⟩
noncomputable def wR (st r:List Int) (n:Int) (kk w s:List Int) (i:Int):St:=⟨slotsOf 195 [(0,.ptr 0 0 0),(2,.ptr 1 0 0),(6,.ptr 2 0 0),(13,.ptr 3 0 0),(104,.int .i64 i)],[dg st r n,.b [.ints .u32 64 kk],.b [.ints .u32 64 w],.b [.ints .u32 8 (aO 8 s)]],true⟩
section
variable (st r p kk w s:List Int) (n i:Int)
theorem Xu:(az Tryz.prog wC0 200 2 4 (atoms wB) ⟨aT Tryz.f140.ntmps [.ptr 0 0 0,.ro false .u8 (aO 64 p),.ptr 1 0 0],[dg st r n,.b [.ints .u32 64 kk]],true⟩).bind (St.cut [0,2,6,8] 3)=some (wS st r n kk (Dr p) 16):=by kernel_rfl
def nxI (w:List Int) (i:Int):Int:=nxW (w.getD (0+(IntKind.i64.wrap (i-2)).toNat) 0) (w.getD (0+(IntKind.i64.wrap (i-15)).toNat) 0) (w.getD (0+(IntKind.i64.wrap (i-7)).toNat) 0) (w.getD (0+(IntKind.i64.wrap (i-16)).toNat) 0)
def nxO (i:Int) (n:Nat):Bool:=aa (aa (aa (aa (aa (aa (aa (aa (aa (aa (aa true (decide (i<64))) (cK (IntKind.i64.wrap (i-15)) 64)) (decide (0+(IntKind.i64.wrap (i-15)).toNat<64))) (cK (IntKind.i64.wrap (i-2)) 64)) (decide (0+(IntKind.i64.wrap (i-2)).toNat<64)))
 (cK (IntKind.i64.wrap (i-7)) 64)) (decide (0+(IntKind.i64.wrap (i-7)).toNat<64))) (cK (IntKind.i64.wrap (i-16)) 64)) (decide (0+(IntKind.i64.wrap (i-16)).toNat<64))) (cK i 64)) (decide (0+i.toNat<64)&&decide (n=64))
theorem Xv:(exec Tryz.prog (wC true true) 200 2 (inner (inner (ak 4 wB))) (wS st r n kk w i)).bind (fun r=>(r.2.cut [0,2,6,8] 3).map fun q=>(r.1,q))=some (.normal,{wS st r n kk (w.set (0+i.toNat) (nxI w i)) (IntKind.i64.wrap (i+1)) with ob:=nxO i w.length}):=by kernel_rfl
theorem Q3:(exec Tryz.prog (wC false true) 200 2 (inner (inner (ak 4 wB))) (wS st r n kk w i)).bind (fun r=>(r.2.cut [0,2,6,8] 3).map fun q=>(r.1,q))=some (.exit 2,{wS st r n kk w i with ob:=aa true (!decide (i<64))}):=by kernel_rfl
theorem acB:(az Tryz.prog wC0 200 2 2 ((atoms wB).drop 5) (wS (aO 8 st) r n kk w i)).bind (St.cut [0,2,6,13,104] 4)=some (wR (aO 8 st) r n kk w st 0):=by kernel_rfl
def rnO (i:Int):Bool:=aa (aa (aa (aa (aa true (decide (i<64))) (cK i 64)) (decide (0+i.toNat<64))) (cK i 64)) (decide (0+i.toNat<64))
theorem acC:(exec Tryz.prog (wC true true) 200 2 (inner (inner (ak 7 wB))) (wR st r n kk w s i)).bind (fun r=>(r.2.cut [0,2,6,13,104] 4).map fun q=>(r.1,q))=some (.normal,{wR st r n kk w (GP (aO 8 s) (kk.getD (0+i.toNat) 0) (w.getD (0+i.toNat) 0)) (IntKind.i64.wrap (i+1)) with ob:=rnO i}):=by kernel_rfl
theorem Xw:(exec Tryz.prog (wC true false) 200 2 (inner (inner (ak 7 wB))) (wR st r n kk w s i)).bind (fun r=>(r.2.cut [0,2,6,13,104] 4).map fun q=>(r.1,q))=some (.exit 4,{wR st r n kk w s i with ob:=aa true (!decide (i<64))}):=by kernel_rfl
end
theorem w9 (w:List Int):∀j,(sched w j).length=w.length
 |0=>rfl
 |j+1=>by rw [sched,List.length_set];exact w9 w j
theorem Q4 (p:List Int):(Dr p).length=64:=by simp [Dr]
theorem Xx {w:List Int} {j:Nat} (hj:j<48):nxI w (16+j)=nxW (w.getD (14+j) 0) (w.getD (1+j) 0) (w.getD (9+j) 0) (w.getD j 0):=by
 unfold nxI
 rw [wrap_i64 _ (by omega) (by omega),wrap_i64 _ (by omega) (by omega),wrap_i64 _ (by omega) (by omega),wrap_i64 _ (by omega) (by omega)]
 rw [show 0+((16:Int)+j-2).toNat=14+j by omega,show 0+((16:Int)+j-15).toNat=1+j by omega,show 0+((16:Int)+j-7).toNat=9+j by omega,show 0+((16:Int)+j-16).toNat=j by omega]
theorem MQ {j:Nat} (hj:j<48):nxO (16+j) 64=true:=by
 unfold nxO
 rw [wrap_i64 _ (by omega) (by omega),wrap_i64 _ (by omega) (by omega),wrap_i64 _ (by omega) (by omega),wrap_i64 _ (by omega) (by omega)]
 simp only [au,Bool.and_eq_true,decide_eq_true_eq,true_and]
 refine ⟨⟨⟨⟨⟨⟨⟨⟨⟨⟨?_,aK (by omega) (by omega)⟩,?_⟩,aK (by omega) (by omega)⟩,?_⟩,aK (by omega) (by omega)⟩,?_⟩,aK (by omega) (by omega)⟩,?_⟩,aK (by omega) (by omega)⟩,?_⟩<;>first|omega|exact ⟨by omega,trivial⟩
theorem MR {j:Nat} (hj:j<64):rnO (j:Int)=true:=by
 unfold rnO
 simp only [au,decide_eq_true_eq,true_and]
 refine ⟨⟨⟨⟨?_,aK (by omega) (by omega)⟩,?_⟩,aK (by omega) (by omega)⟩,?_⟩<;>omega
theorem Q5 (s:List Int) (k w:Int):aO 8 (GP s k w)=GP s k w:=rfl
theorem Bb (s k w:List Int):∀j,aO 8 (dG (aO 8 s) k w j)=dG (aO 8 s) k w j
 |0=>aJ (aI _ _)
 |_+1=>Q5 _ _ _
theorem Xy (st r p kk:List Int) (n:Int):Tr Tryz.prog none 2 (ak 4 wB) (wS (aO 8 st) r n kk (Dr p) 16) .normal (wS (aO 8 st) r n kk (sched (Dr p) 48) 64):=by
 have key:=Tr.loop (P:=Tryz.prog) (ro:=none) (k:=2) 2 (c:=ak 4 wB) (by kernel_rfl) (fun j:Nat=>wS (aO 8 st) r n kk (sched (Dr p) j) (16+j)) 48 (s':=wS (aO 8 st) r n kk (sched (Dr p) 48) 64) (fun j hj=>?_) ?_
 ·exact key
 ·have k:=Xv (aO 8 st) r kk (sched (Dr p) j) n (16+j)
  rw [w9,Q4,MQ hj,Xx hj,wrap_i64 _ (by omega) (by omega)] at k
  refine Tr.post (Tr.cut (Fl true true) 200 _ 3 (by omega) k rfl) (aU.same ?_ ?_)
  ·show (wS _ _ _ _ _ _).t=(wS _ _ _ _ _ _).t
   rw [show ((16:Int)+(j:Int)+1)=16+((j+1:Nat):Int) by omega];rfl
  ·show (wS _ _ _ _ _ _).h=(wS _ _ _ _ _ _).h
   rw [show 0+((16:Int)+(j:Int)).toNat=16+j by omega];rfl
 ·have k:=Q3 (aO 8 st) r kk (sched (Dr p) 48) n 64
  exact Tr.post (Tr.cut (Fl false true) 200 _ 3 (by omega) k rfl) (aU.same rfl rfl)
theorem Q6 (st r kk w:List Int) (n:Int):Tr Tryz.prog none 2 (ak 7 wB) (wR (aO 8 st) r n kk w st 0) .normal (wR (aO 8 st) r n kk w (dG (aO 8 st) kk w 64) 64):=by
 have key:=Tr.loop (P:=Tryz.prog) (ro:=none) (k:=2) 4 (c:=ak 7 wB) (by kernel_rfl) (fun j:Nat=>wR (aO 8 st) r n kk w (dG (aO 8 st) kk w j) j) 64 (s':=wR (aO 8 st) r n kk w (dG (aO 8 st) kk w 64) 64) (fun j hj=>?_) ?_
 ·refine Tr.pre key (aU.same rfl ?_)
  show (wR _ _ _ _ _ _ _).h=(wR _ _ _ _ _ _ _).h
  unfold wR
  simp only [dG]
  rw [aJ (aI 8 st)]
 ·have k:=acC (aO 8 st) r kk w (dG (aO 8 st) kk w j) n j
  rw [MR hj,wrap_i64 _ (by omega) (by omega),Bb] at k
  refine Tr.post (Tr.cut (Fl true true) 200 _ 4 (by omega) k rfl) (aU.same ?_ ?_)
  ·show (wR _ _ _ _ _ _ _).t=(wR _ _ _ _ _ _ _).t
   rw [show ((j:Int)+1)=((j+1:Nat):Int) by omega];rfl
  ·show (wR _ _ _ _ _ _ _).h=(wR _ _ _ _ _ _ _).h
   rw [show 0+(j:Int).toNat=j by omega];rfl
 ·have k:=Xw (aO 8 st) r kk w (dG (aO 8 st) kk w 64) n 64
  exact Tr.post (Tr.cut (Fl true false) 200 _ 4 (by omega) k rfl) (aU.same rfl rfl)
theorem mq {st p kk:List Int} (r:List Int) (n:Int) (hs:st.length=8) (hp:p.length=64):aj Tryz.prog 140 [.ptr 0 0 0,.ro false .u8 p,.ptr 1 0 0] [dg st r n,.b [.ints .u32 64 kk]] (.bk []) [dg (eZ st p kk) r n,.b [.ints .u32 64 kk]]:=by
 have key:aj Tryz.prog 140 [.ptr 0 0 0,.ro false .u8 (aO 64 p),.ptr 1 0 0] [dg (aO 8 st) r n,.b [.ints .u32 64 kk]] (.bk []) [dg (eZ (aO 8 st) p kk) r n,.b [.ints .u32 64 kk]]:=by
  rw [eZ,aq]
  refine aj.cg C8 200 8 2 Tryz.func140 (by simp) rfl (fun s' x h=>?_) (s:=wR (aO 8 st) r n kk (sched (Dr p) 48) (dG (aO 8 st) kk (sched (Dr p) 48) 64) 64) (p:=true) (by rw [←Bb];kernel_rfl) rfl rfl rfl
  refine aG.items C8 200 4 _ 3 (by simp) (Xu (aO 8 st) r p kk n) rfl (by decide) ?_
  refine aG.item 4 (by decide) (Xy st r p kk n) ?_
  refine aG.items C8 200 2 _ 4 (by simp) (acB st r kk _ n 64) rfl (by decide) ?_
  exact aG.item 7 (by decide) (Q6 st r kk _ n) h
 rw [aJ hp,aJ hs] at key
 exact key
def RX (vs:List SV) (_:List Blk):List Nat:=match vs with
 | [.ptr a _ _,_,.ptr b _ _]=>[a,b]
 |_=>[]
noncomputable def vr:List SV→List Blk→Option (SV×List Blk×Bool)
 | [.ptr 0 0 0,.ro false .u8 p,.ptr 1 0 0],[.b [.ints .u32 8 st,.ro true .u8 r,.int .i64 n],.b [.ints .u32 64 kk]]=>some (.bk [],[dg (eZ st p kk) r n,.b [.ints .u32 64 kk]],decide (st.length=8)&&decide (p.length=64))
 |_,_=>none
noncomputable def rD:Entry Tryz.prog:=.mut 140 _ Tryz.func140 (by decide) rfl RX 0 vr fun vs h0 v h1 e=>by
 unfold vr at e
 split at e
 ·simp only [Option.some.injEq,Prod.mk.injEq,Bool.and_eq_true,decide_eq_true_eq] at e
  obtain ⟨rfl,rfl,hs,hp⟩:=e
  exact mq _ _ hs hp
 ·cases e
end Go.Proofs.YtibfpjeeanppjaaGreat.S2
end
section
namespace Go.Proofs.YtibfpjeeanppjaaGreat.S2
open Go Go.Sy Sh
noncomputable def gK (p kk st:List Int):Nat→List Int
 |0=>st
 |j+1=>eZ (gK p kk st j) ((p.drop (64*j)).take 64) kk
theorem C9 (s p k:List Int):(eZ s p k).length=8:=by rw [eZ,aq];simp [xm]
theorem nk {p kk st:List Int} (h:st.length=8):∀j,(gK p kk st j).length=8
 |0=>h
 |_+1=>C9 _ _ _
noncomputable def pg:List Int:=(List.range 8).map fun i=>V (bh .u64 (bL.getD i 0) 32)
theorem pQ:pg.length=8:=by simp [pg]
noncomputable def nwC:bK:=mk (P:=Tryz.prog) [Xz] []
theorem XA:ag Tryz.prog nwC:=ai _ aF.nil _ _
theorem XB:aj Tryz.prog 106 [] [] (.ptr 0 0 0) [dg pg [] 0]:=by
 have k:aj Tryz.prog 106 [] [] (.ptr 0 0 0) [.b [.ints .u32 8 pg,.nl (.slice none 0 0),.int .i64 0]]:=
  dF XA 200 Tryz.func106 1 (by simp) (p:=true) (by kernel_rfl) rfl rfl rfl
 refine aj.conv k trivial trivial (VE.refl _) ⟨⟨rfl,?_⟩,trivial⟩
 rintro e xs ⟨zs,⟨y,us,hy,h2,rfl⟩,rfl⟩
 have hy':y= .slice none 0 0:=hy
 subst hy'
 exact ⟨_,⟨.slice none 0 0,us,.inl ⟨rfl,none,0,rfl,fun _=>rfl⟩,h2,rfl⟩,rfl⟩
noncomputable def newF:List SV→Option (SV×List Blk×Bool)
 | []=>some (.ptr 0 0 0,[dg pg [] 0],true)
 |_=>none
noncomputable def ZX:Entry Tryz.prog:=.val 106 _ Tryz.func106 (by decide) rfl false 1 newF fun vs v new e=>by
 unfold newF at e
 split at e
 ·cases e;exact XB
 ·cases e
noncomputable def adC (b:Bool):bK:=mk (P:=Tryz.prog) [js,yX,rD,MS] [] fun i=>if i=27 then some b else none
theorem yY (b:Bool):ag Tryz.prog (adC b):=ai _ aF.nil _ _
noncomputable def aB:Code:=aH Tryz.f107
noncomputable def aS (st r b:List Int) (n:Int) (kk all:List Int):St:=⟨slotsOf 39 [(0,.ptr 0 0 0),(4,.ro true .u8 all),(5,.ptr 2 0 0)],[dg st r n,.b [.ro true .u8 r,.ro false .u8 b],.b [.ints .u32 64 kk]],true⟩
section
variable (st r b kk all:List Int) (n:Int)
theorem Q7:(az Tryz.prog (adC true) 60 1 5 (atoms aB) ⟨aT Tryz.f107.ntmps [.ptr 0 0 0,.ro false .u8 b],[dg st r n],true⟩).bind (St.cut [0,4,5] 3)=
  some {aS st r b (IntKind.i64.wrap (n+b.length)) gB [r,b].flatten with ob:=aa true (aa true (decide ([r,b].flatten.length≤274877906944)&&true))}:=by kernel_rfl
theorem XC:(exec Tryz.prog (adC true) 60 1 (inner (inner (ak 5 aB))) (aS st r b n kk all)).bind (fun r=>(r.2.cut [0,4,5] 3).map fun q=>(r.1,q))=
  some (.normal,{aS (eZ st (all.take 64) kk) r b n kk (all.drop 64) with ob:=aa (aa (aa (aa true (decide ((all.length:Int)≥64))) (aa true (true&&decide ((64:Int)≤all.length)))) (aa true (decide (st.length=8)&&decide ((all.take 64).length=64)))) (aa true (aa true (true&&decide ((64:Int)≤all.length))))}):=by kernel_rfl
theorem XD:(exec Tryz.prog (adC false) 60 1 (inner (inner (ak 5 aB))) (aS st r b n kk all)).bind (fun r=>(r.2.cut [0,4,5] 3).map fun q=>(r.1,q))=
  some (.exit 0,{aS st r b n kk all with ob:=aa true (!decide ((all.length:Int)≥64))}):=by kernel_rfl
end
theorem Q8 {st r b kk all:List Int} (n:Int) (hs:st.length=8):Tr Tryz.prog none 1 (ak 5 aB) (aS st r b n kk all) .normal (aS (gK all kk st (all.length/64)) r b n kk (all.drop (64*(all.length/64)))):=by
 have key:=Tr.loop (P:=Tryz.prog) (ro:=none) (k:=1) 0 (c:=ak 5 aB) (by kernel_rfl) (fun j:Nat=>aS (gK all kk st j) r b n kk (all.drop (64*j))) (all.length/64) (s':=aS (gK all kk st (all.length/64)) r b n kk (all.drop (64*(all.length/64)))) (fun j hj=>?_) ?_
 ·exact key
 ·have k:=XC (gK all kk st j) r b kk (all.drop (64*j)) n
  have hl:64≤(all.drop (64*j)).length:=by rw [List.length_drop];omega
  rw [List.drop_drop,decide_eq_true (show ((all.drop (64*j)).length:Int)≥64 by omega),decide_eq_true (nk hs j),decide_eq_true (show ((all.drop (64*j)).take 64).length=64 by rw [List.length_take];omega)] at k
  refine Tr.post (Tr.cut (yY true) 60 _ 3 (by omega) k rfl) (aU.same ?_ rfl)
  show (aS [] r b 0 kk _).t=(aS [] r b 0 kk _).t
  rw [show 64*j+64=64*(j+1) by omega]
 ·have k:=XD (gK all kk st (all.length/64)) r b kk (all.drop (64*(all.length/64))) n
  have hl:¬((all.drop (64*(all.length/64))).length:Int)≥64:=by rw [List.length_drop];omega
  exact Tr.post (Tr.cut (yY false) 60 _ 3 (by omega) k (by rw [decide_eq_false hl];rfl)) (aU.same rfl rfl)
theorem Bs {st r b:List Int} (n:Int) (hs:st.length=8) (hb:r.length+b.length<274877900000):aj Tryz.prog 107 [.ptr 0 0 0,.ro false .u8 b] [dg st r n] (.bk [])
  [dg (gK (r++b) gB st ((r++b).length/64)) ((r++b).drop (64*((r++b).length/64))) (IntKind.i64.wrap (n+b.length))]:=by
 have hl:(r++b).length=r.length+b.length:=List.length_append
 have hh:=Q7 st r b n
 have e:[r,b].flatten=r++b:=by simp
 rw [e,decide_eq_true (show (r++b).length≤274877906944 by omega)] at hh
 generalize r++b=all at*
 have hd:(all.drop (64*(all.length/64))).length≤274877906944:=by rw [List.length_drop];omega
 have k2:aj Tryz.prog 107 [.ptr 0 0 0,.ro false .u8 b] [dg st r n] (.bk [])
   [.b [.ints .u32 8 (gK all gB st (all.length/64)),.sl 3 0 0 1 (all.drop (64*(all.length/64))).length (all.drop (64*(all.length/64))).length false true,.int .i64 (IntKind.i64.wrap (n+b.length))],.b [.ro true .u8 r,.ro false .u8 b],.b [.ints .u32 64 gB],.b [.ints .u8 (all.drop (64*(all.length/64))).length (all.drop (64*(all.length/64)))]]:=by
  refine aj.cg (yY true) 60 6 4 Tryz.func107 (by simp) rfl (fun s' x h=>?_) (s:=aS (gK all gB st (all.length/64)) r b (IntKind.i64.wrap (n+b.length)) gB (all.drop (64*(all.length/64))))
   (p:=aa (aa true (aa true (decide ((all.drop (64*(all.length/64))).length≤274877906944)))) true) (by kernel_rfl) (by rw [decide_eq_true hd];rfl) rfl rfl
  refine aG.items (yY true) 60 5 _ 3 (by simp) hh rfl (by decide) ?_
  exact aG.item 5 (by decide) (Tr.pre (Q8 _ hs) (aU.same rfl rfl)) h
 generalize all.drop (64*(all.length/64))=al at*
 have k3:=aj.fz 3 1 (by simp) (by simp) k2 (u:=.bk []) (h2:=[dg (gK all gB st (all.length/64)) al (IntKind.i64.wrap (n+b.length))]) (p:=aa (decide (al.length=al.length)) (aa true (aa true (true&&(true&&decide (al.length=al.length)))))) (by kernel_rfl) (by rw [decide_eq_true rfl];rfl)
 exact k3
def acD (vs:List SV) (_:List Blk):List Nat:=match vs with
 | .ptr a _ _::_=>[a]
 |_=>[]
noncomputable def Hz:List SV→List Blk→Option (SV×List Blk×Bool)
 | [.ptr 0 0 0,.ro false .u8 b],[.b [.ints .u32 8 st,.ro true .u8 r,.int .i64 n]]=>some (.bk [],[dg (gK (r++b) gB st ((r++b).length/64)) ((r++b).drop (64*((r++b).length/64))) (IntKind.i64.wrap (n+b.length))],decide (st.length=8)&&decide (r.length+b.length<274877900000))
 |_,_=>none
noncomputable def tC:Entry Tryz.prog:=.mut 107 _ Tryz.func107 (by decide) rfl acD 0 Hz fun vs h0 v h1 e=>by
 unfold Hz at e
 split at e
 ·simp only [Option.some.injEq,Prod.mk.injEq,Bool.and_eq_true,decide_eq_true_eq] at e
  obtain ⟨rfl,rfl,hs,hb⟩:=e
  exact Bs _ hs hb
 ·cases e
noncomputable def suC (x:Bool):bK:=mk (P:=Tryz.prog) [Fm,xh,yX,rD] [] fun i=>if i=9 then some x else none
theorem yZ (x:Bool):ag Tryz.prog (suC x):=ai _ aF.nil _ _
noncomputable def ahs:bK:=mk (P:=Tryz.prog) [Fm,xh,yX,rD] []
theorem Q9:ag Tryz.prog ahs:=ai _ aF.nil _ _
noncomputable def uB:Code:=aH Tryz.f108
noncomputable def uC:Code:=ak 6 uB
noncomputable def Nq:List Int:=List.replicate 32 0
noncomputable def uT:List (Option SV):=slotsOf 52 [(2,.ptr 1 0 0),(3,.ptr 2 0 0),(4,.ptr 3 0 0),(25,.fn (.func 164) [] [.ptr 4 0 0,.ptr 5 0 0])]
noncomputable def uK (sQ r:List Int) (n:Int) (p kk st:List Int):List Blk:=[dg sQ r n,.b [.ints .u8 32 Nq],dg st r n,.b [.ints .u32 64 kk],.b [.ro false .u8 p],.b [.int .i64 64]]
noncomputable def uH (sQ r:List Int) (n:Int) (p kk st:List Int) (l:Nat):List Blk:=[dg sQ r n,.b [.ints .u8 32 Nq],dg st r n,.b [.ints .u32 64 kk],.b [.ro false .u8 p],.b [.int .i64 64],.g (some (Dl uC uT l))]
noncomputable def uS (sQ r:List Int) (n:Int) (p kk st:List Int) (l:Nat) (i:Int):St:=⟨slotsOf 31 [(0,.fn (.yield l) [] []),(1,.ptr 4 0 0),(2,.ptr 5 0 0),(4,.int .i64 i)],uH sQ r n p kk st l,true⟩
def vO (p:List Int) (i:Int):Int:=IntKind.i64.wrap (i+if ((p.drop i.toNat).length:Int)<64 then ((p.drop i.toNat).length:Int) else 64)
def G5 (p:List Int) (i:Int):List Int:=(p.drop i.toNat).take ((vO p i).toNat-i.toNat)
def TN (p st:List Int) (i:Int) (l:Nat):Bool:=
 aa (aa (aa (aa true (decide (i<p.length))) (aa true (aa true (decide (0≤i)&&decide (i≤p.length)))))
  (aa (decide (0≤vO p i)&&decide (vO p i≤p.length)) (aa (decide (0≤vO p i)&&decide (vO p i≤(vO p i).toNat)) (decide (0≤i)&&decide (i≤(vO p i).toNat)))))
  (aa (aa (aa (decide (l=l)) (decide (l=l))) (aa true (decide (st.length=8)&&decide ((G5 p i).length=64)))) (decide (l=l)))
section
variable (sQ r p kk st:List Int) (n:Int) (l:Nat) (i:Int)
theorem Bv:(exec Tryz.prog (suC true) 60 7 (inner (inner (ak 1 Nk))) (uS sQ r n p kk st l i)).bind (fun r=>(r.2.cut [0,1,2,4] 7).map fun q=>(r.1,q))=
  some (.normal,{uS sQ r n p kk (eZ st (G5 p i) kk) l (IntKind.i64.wrap (i+64)) with ob:=TN p st i l}):=by kernel_rfl
theorem Bw:(exec Tryz.prog (suC false) 60 7 (inner (inner (ak 1 Nk))) (uS sQ r n p kk st l i)).bind (fun r=>(r.2.cut [0,1,2,4] 7).map fun q=>(r.1,q))=
  some (.exit 0,{uS sQ r n p kk st l i with ob:=aa true (!decide (i<p.length))}):=by kernel_rfl
theorem tE:(az Tryz.prog (suC true) 60 7 1 (atoms Nk) ⟨aT Tryz.f164.ntmps [.fn (.yield l) [] [],.ptr 4 0 0,.ptr 5 0 0],uH sQ r n p kk st l,true⟩).bind (St.cut [0,1,2,4] 7)=some (uS sQ r n p kk st l 0):=by kernel_rfl
end
theorem HB {p st:List Int} (hs:st.length=8) {N j:Nat} (hp:p.length=64*N) (hj:j<N) (hb:N<10000000000) (l:Nat):G5 p (64*j:Nat)=(p.drop (64*j)).take 64∧TN p st (64*j:Nat) l=true:=by
 have hd:(p.drop (64*j)).length=64*N-64*j:=by rw [List.length_drop,hp]
 have he:vO p (64*j:Nat)=((64*j+64:Nat):Int):=by
  unfold vO
  rw [Int.toNat_natCast,hd,if_neg (by omega),wrap_i64 _ (by omega) (by omega)];omega
 have hw:G5 p (64*j:Nat)=(p.drop (64*j)).take 64:=by
  unfold G5
  rw [he,Int.toNat_natCast,Int.toNat_natCast,Nat.add_sub_cancel_left]
 refine ⟨hw,?_⟩
 have hl:((p.drop (64*j)).take 64).length=64:=by rw [List.length_take,hd];omega
 unfold TN
 rw [hw,he,hl,hs]
 simp only [au,Bool.and_eq_true,decide_eq_true_eq,true_and,and_true,Int.toNat_natCast,hp]
 repeat' apply And.intro
 all_goals omega
theorem Ra (sQ r:List Int) (n:Int) {p:List Int} {N:Nat} (hp:p.length=64*N) (hb:N<10000000000) (kk:List Int) {st:List Int} (hs:st.length=8) (l:Nat):
  aj Tryz.prog 164 [.fn (.yield l) [] [],.ptr 4 0 0,.ptr 5 0 0] (uH sQ r n p kk st l) (.bk []) (uH sQ r n p kk (gK p kk st N) l):=by
 have bS:Tr Tryz.prog none 7 (ak 1 Nk) (uS sQ r n p kk st l 0) .normal (uS sQ r n p kk (gK p kk st N) l (64*N:Nat)):=by
  have key:=Tr.loop (P:=Tryz.prog) (ro:=none) (k:=7) 0 (c:=ak 1 Nk) (by kernel_rfl) (fun j:Nat=>uS sQ r n p kk (gK p kk st j) l (64*j:Nat)) N (s':=uS sQ r n p kk (gK p kk st N) l (64*N:Nat)) (fun j hj=>?_) ?_
  ·exact key
  ·obtain ⟨h1,h2⟩:=HB (nk (p:=p) (kk:=kk) hs j) hp hj hb l
   have k:=Bv sQ r p kk (gK p kk st j) n l (64*j:Nat)
   rw [h1,h2,wrap_i64 _ (by omega) (by omega)] at k
   refine Tr.post (Tr.cut (yZ true) 60 _ 7 (by omega) k rfl) (aU.same ?_ rfl)
   show (uS sQ r n p kk st l _).t=(uS sQ r n p kk st l _).t
   rw [show ((64*j:Nat):Int)+64=((64*(j+1):Nat):Int) by omega]
  ·have k:=Bw sQ r p kk (gK p kk st N) n l (64*N:Nat)
   exact Tr.post (Tr.cut (yZ false) 60 _ 7 (by omega) k (by rw [hp];simp [aa])) (aU.same rfl rfl)
 refine aj.mk (vs:=[]) Tryz.func164 rfl (x:=.normal) (s:=uS sQ r n p kk (gK p kk st N) l (64*N:Nat)) ?_ (.inr rfl) (by kernel_rfl)
 refine aG.items (yZ true) 60 1 _ 7 (by simp [uH]) (tE sQ r p kk st n l) rfl (by decide) ?_
 exact aG.item 1 (by decide) bS ⟨rfl,rfl⟩
def zm (s:List Int):List Int:=(List.range 32).map fun i=>IntKind.u8.wrap (bh .u32 (s.getD (i/4) 0) (24-8*(i%4)))
def nc (r:List Int) (n:Int):List Int:=eB r 64 56++GQ n
theorem MT (r:List Int) (n:Int):(nc r n).length=64*((nc r n).length/64)∧(nc r n).length≤r.length+73:=by
 have h:=(qz (len:=r.length) (show 56<64 by omega)).1
 have hK:cR r.length 64 56<64:=Nat.mod_lt _ (by omega)
 have hl:(nc r n).length=r.length+1+cR r.length 64 56+8:=by unfold nc;rw [List.length_append,g9];rfl
 rw [hl];omega
noncomputable def mu (st r:List Int) (n:Int):List Int:=zm (gK (nc r n) gB st ((nc r n).length/64))
theorem FV (st r:List Int) (n:Int):(mu st r n).length=32:=by simp [mu,zm]
theorem Rb (st r:List Int) (n:Int):(az Tryz.prog (suC true) 60 1 6 (atoms uB) ⟨aT Tryz.f108.ntmps [.ptr 0 0 0],[dg st r n],true⟩).bind (St.cut [2,3,4,25] 6)=
  some ⟨uT,uK st r n (nc r n) gB st,aa true (aa true (decide (r.length<274877900000)))⟩:=by kernel_rfl
theorem XE {st r:List Int} (n:Int) (hs:st.length=8) (hr:r.length<274877900000):aj Tryz.prog 108 [.ptr 0 0 0] [dg st r n] (.agg [.ints .u8 32 (mu st r n)]) [dg st r n]:=by
 obtain ⟨hp,hq⟩:=MT r n
 unfold mu
 generalize hN:(nc r n).length/64=N at hp
 refine aj.cg Q9 60 7 1 Tryz.func108 (by simp) rfl (fun s' x h=>?_) (s:=⟨uT,uK st r n (nc r n) gB (gK (nc r n) gB st N)++[.gap],true⟩) (p:=true) (by kernel_rfl) rfl rfl rfl
 refine aG.items (yZ true) 60 6 _ 6 (by simp) (Rb st r n) (by rw [decide_eq_true hr];rfl) (by decide) ?_
 refine aG.item 6 (by decide) ?_ h
 exact Tr.xk 0 (by kernel_rfl) (f:=164) (first:=[]) (jX:=[.ptr 4 0 0,.ptr 5 0 0]) true Tryz.func164 (by decide) rfl (by kernel_rfl) (fun l=>Ra st r n hp (by omega) gB hs l)
  (fun l=>⟨_,rfl,rfl,by simp [Dl],rfl⟩) (fun l=>rfl)
def acF (vs:List SV):List Nat:=match vs with
 | [.ptr a _ _]=>[a]
 |_=>[]
noncomputable def acG:List SV→List Blk→Option (SV×Bool)
 | [.ptr 0 0 0],[.b [.ints .u32 8 st,.ro true .u8 r,.int .i64 n]]=>some (.agg [.ints .u8 32 (mu st r n)],decide (st.length=8)&&decide (r.length<274877900000))
 |_,_=>none
noncomputable def ZY:Entry Tryz.prog:=.rdm 108 _ Tryz.func108 (by decide) rfl acF acG fun vs h0 v e=>by
 unfold acG at e
 split at e
 ·simp only [Option.some.injEq,Prod.mk.injEq,Bool.and_eq_true,decide_eq_true_eq] at e
  obtain ⟨rfl,hs,hb⟩:=e
  exact XE _ hs hb
 ·cases e
end Go.Proofs.YtibfpjeeanppjaaGreat.S2
end
