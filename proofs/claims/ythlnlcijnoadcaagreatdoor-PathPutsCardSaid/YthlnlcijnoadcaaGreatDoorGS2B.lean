/- This file holds the texts S2A, S2B, a section each. No conditions beyond those in the theorems. -/
import Derived.Test.YthlnlcijnoadcaaGreatDoorGShK
noncomputable section
open Go.Proofs.Tryz
open Go.IntKind (i64 u8 u64 u32)
set_option linter.all false
set_option maxRecDepth 100000
section
namespace Go.Proofs.YthlnlcijnoadcaaGreatDoor.S2
open Go Go.Sy Sh
abbrev V (n:Int):Int:=u32.wrap n
theorem wrap_u32 (n:Int):u32.wrap n=n%4294967296:=by simp [IntKind.wrap,IntKind.signed,IntKind.bits]
def rR (x a:Int):Int:=Dc .u32 (jS .u32 x (hD .u64 (W a) 31).toNat) (e6 .u32 x (W (32-hD .u64 (W a) 31)).toNat)
def zw (x a:Int):Int:=rR x (i64.wrap (0-a))
def OI (x a b c:Int):Int:=eZ .u32 (eZ .u32 (zw x a) (zw x b)) (zw x c)
def XW:List SV->Option (SV×List Blk×Bool)
 | [.int .u32 x,.int .i64 a]=>some (.int .u32 (rR x a),[],true)
 |_=>none
def Lz:Entry prog:=.val 248 _ func248 (by decide) rfl false 0 XW λvs v new e=>by
 unfold XW at e
 split at e
 ·rename_i x a
  cases e
  exact aI pT 60 func248 (p:=aa true (W0 (32-hD .u64 (W a) 31))) (by kernel_rfl) (by simp only [Cz,aC,and_self]) rfl
 ·cases e
def xq:bO:=mk (P:=prog) [Lz] []
theorem ia:ak prog xq:=az _ aL.nil _ _
def HE:List SV->Option (SV×List Blk×Bool)
 | [.int .u32 x,.int .i64 a,.int .i64 b,.int .i64 c]=>some (.int .u32 (OI x a b c),[],true)
 |_=>none
def tW:Entry prog:=.val 249 _ func249 (by decide) rfl false 0 HE λvs v new e=>by
 unfold HE at e
 split at e
 ·rename_i x a b c
  cases e
  exact aI ia 60 func249 (p:=true) (by kernel_rfl) rfl rfl
 ·cases e
def lT:List Int:=(List.range 64).map λi=>V (e6 .u64 (kL.getD i 0) 32)
def shC:bO:=mk (P:=prog) [Ra] []
theorem Rb:ak prog shC:=az _ aL.nil _ _
def CA:List SV->Option (SV×List Blk×Bool)
 | []=>some (.agg [.ints .u32 64 lT],[],true)
 |_=>none
def xB:Entry prog:=.val 209 _ func209 (by decide) rfl false 0 CA λvs v new e=>by
 unfold CA at e
 split at e
 ·cases e
  exact aI Rb 200 func209 (p:=true) (by kernel_rfl) rfl rfl
 ·cases e
def wd (p:List Int) (i:Nat):Int:=Dc .u32 (Dc .u32 (Dc .u32 (jS .u32 (V (p.getD (4*i) 0)) 24) (jS .u32 (V (p.getD (4*i+1) 0)) 16)) (jS .u32 (V (p.getD (4*i+2) 0)) 8)) (V (p.getD (4*i+3) 0))
def Ej (p:List Int):List Int:=(List.range 16).map (wd p)++List.replicate 48 0
def XX (y x a b:Int):Int:=V (V (V (eZ .u32 (eZ .u32 (rR y (-17)) (rR y (-19))) (e6 .u32 y 10)+a)+eZ .u32 (eZ .u32 (rR x (-7)) (rR x (-18))) (e6 .u32 x 3))+b)
def sched (w:List Int):Nat->List Int
 |0=>w
 |j+1=>(sched w j).set (16+j) (XX ((sched w j).getD (14+j) 0) ((sched w j).getD (1+j) 0) ((sched w j).getD (9+j) 0) ((sched w j).getD j 0))
def chW (e f g:Int):Int:=eZ .u32 (hD .u32 e f) (hD .u32 (eZ .u32 IntKind.u32.max e) g)
def mjW (a b c:Int):Int:=eZ .u32 (eZ .u32 (hD .u32 a b) (hD .u32 a c)) (hD .u32 b c)
def t1W (s:List Int) (k w:Int):Int:=V (V (V (V (s.getD 7 0+OI (s.getD 4 0) 6 11 25)+chW (s.getD 4 0) (s.getD 5 0) (s.getD 6 0))+k)+w)
def t2W (s:List Int):Int:=V (OI (s.getD 0 0) 2 13 22+mjW (s.getD 0 0) (s.getD 1 0) (s.getD 2 0))
def Ek (s:List Int) (k w:Int):List Int:=[V (t1W s k w+t2W s),s.getD 0 0,s.getD 1 0,s.getD 2 0,V (s.getD 3 0+t1W s k w),s.getD 4 0,s.getD 5 0,s.getD 6 0]
def pV (s k w:List Int):Nat->List Int
 |0=>s
 |j+1=>Ek (pV s k w j) (k.getD j 0) (w.getD j 0)
def zx (s t:List Int):List Int:=(List.range 8).map λi=>V (s.getD i 0+t.getD i 0)
def gG (s p k:List Int):List Int:=uQ (zx s (pV s k (sched (Ej p) 48) 64))
def wC (b c:Bool):bO:=mk (P:=prog) [tW,Lz] [] λi=>if i=58 then some b else if i=105 then some c else none
theorem CB (b c:Bool):ak prog (wC b c):=az _ aL.nil _ _
def wC0:bO:=mk (P:=prog) [tW,Lz] []
theorem Bb:ak prog wC0:=az _ aL.nil _ _
def wB:Code:=aP f210
def dg (st r:List Int) (n:Int):Blk:=.b [.ints .u32 8 st,.ro true .u8 r,.int .i64 n]
def wS (st r:List Int) (n:Int) (kk w:List Int) (i:Int):St:=⟨slotsOf 195 [(0,.ptr 0 0 0),(2,.ptr 1 0 0),(6,.ptr 2 0 0),(8,.int .i64 i)],[dg st r n,.b [.ints .u32 64 kk],.b [.ints .u32 64 w]],true⟩
def wR (st r:List Int) (n:Int) (kk w s:List Int) (i:Int):St:=⟨slotsOf 195 [(0,.ptr 0 0 0),(2,.ptr 1 0 0),(6,.ptr 2 0 0),(13,.ptr 3 0 0),(104,.int .i64 i)],[dg st r n,.b [.ints .u32 64 kk],.b [.ints .u32 64 w],.b [.ints .u32 8 (cG 8 s)]],true⟩
section
variable (st r p kk w s:List Int) (n i:Int)
theorem Rc:(aE prog wC0 200 2 4 (atoms wB) ⟨aD f210.ntmps [.ptr 0 0 0,.ro false .u8 (cG 64 p),.ptr 1 0 0],[dg st r n,.b [.ints .u32 64 kk]],true⟩).bind (St.cut [0,2,6,8] 3)=some (wS st r n kk (Ej p) 16):=by kernel_rfl
def nxI (w:List Int) (i:Int):Int:=XX (w.getD (0+(i64.wrap (i-2)).toNat) 0) (w.getD (0+(i64.wrap (i-15)).toNat) 0) (w.getD (0+(i64.wrap (i-7)).toNat) 0) (w.getD (0+(i64.wrap (i-16)).toNat) 0)
def nxO (i:Int) (n:Nat):Bool:=aa (aa (aa (aa (aa (aa (aa (aa (aa (aa (aa true (decide (i<64))) (aX (i64.wrap (i-15)) 64)) (decide (0+(i64.wrap (i-15)).toNat<64))) (aX (i64.wrap (i-2)) 64)) (decide (0+(i64.wrap (i-2)).toNat<64)))
 (aX (i64.wrap (i-7)) 64)) (decide (0+(i64.wrap (i-7)).toNat<64))) (aX (i64.wrap (i-16)) 64)) (decide (0+(i64.wrap (i-16)).toNat<64))) (aX i 64)) (decide (0+i.toNat<64)&&decide (n=64))
theorem Rd:(exec prog (wC true true) 200 2 (inner (inner (au 4 wB))) (wS st r n kk w i)).bind (λr=>(r.2.cut [0,2,6,8] 3).map λq=>(r.1,q))=some (.normal,{wS st r n kk (w.set (0+i.toNat) (nxI w i)) (i64.wrap (i+1)) with ob:=nxO i w.length}):=by kernel_rfl
theorem LG:(exec prog (wC false true) 200 2 (inner (inner (au 4 wB))) (wS st r n kk w i)).bind (λr=>(r.2.cut [0,2,6,8] 3).map λq=>(r.1,q))=some (.exit 2,{wS st r n kk w i with ob:=aa true (!decide (i<64))}):=by kernel_rfl
theorem XY:(aE prog wC0 200 2 2 ((atoms wB).drop 5) (wS (cG 8 st) r n kk w i)).bind (St.cut [0,2,6,13,104] 4)=some (wR (cG 8 st) r n kk w st 0):=by kernel_rfl
def rnO (i:Int):Bool:=aa (aa (aa (aa (aa true (decide (i<64))) (aX i 64)) (decide (0+i.toNat<64))) (aX i 64)) (decide (0+i.toNat<64))
theorem XZ:(exec prog (wC true true) 200 2 (inner (inner (au 7 wB))) (wR st r n kk w s i)).bind (λr=>(r.2.cut [0,2,6,13,104] 4).map λq=>(r.1,q))=some (.normal,{wR st r n kk w (Ek (cG 8 s) (kk.getD (0+i.toNat) 0) (w.getD (0+i.toNat) 0)) (i64.wrap (i+1)) with ob:=rnO i}):=by kernel_rfl
theorem Re:(exec prog (wC true false) 200 2 (inner (inner (au 7 wB))) (wR st r n kk w s i)).bind (λr=>(r.2.cut [0,2,6,13,104] 4).map λq=>(r.1,q))=some (.exit 4,{wR st r n kk w s i with ob:=aa true (!decide (i<64))}):=by kernel_rfl
end
theorem vT (w:List Int):∀j,(sched w j).length=w.length
 |0=>rfl
 |j+1=>by rw [sched,List.length_set];exact vT w j
theorem LH (p:List Int):(Ej p).length=64:=by simp [Ej]
theorem Rf {w:List Int} {j:Nat} (hj:j<48):nxI w (16+j)=XX (w.getD (14+j) 0) (w.getD (1+j) 0) (w.getD (9+j) 0) (w.getD j 0):=by
 unfold nxI
 rw [wrap_i64 _ (by omega) (by omega),wrap_i64 _ (by omega) (by omega),wrap_i64 _ (by omega) (by omega),wrap_i64 _ (by omega) (by omega)]
 rw [show 0+((16:Int)+j-2).toNat=14+j by omega,show 0+((16:Int)+j-15).toNat=1+j by omega,show 0+((16:Int)+j-7).toNat=9+j by omega,show 0+((16:Int)+j-16).toNat=j by omega]
theorem HF {j:Nat} (hj:j<48):nxO (16+j) 64=true:=by
 unfold nxO
 rw [wrap_i64 _ (by omega) (by omega),wrap_i64 _ (by omega) (by omega),wrap_i64 _ (by omega) (by omega),wrap_i64 _ (by omega) (by omega)]
 simp only [aC,aac,aab,true_and]
 refine ⟨⟨⟨⟨⟨⟨⟨⟨⟨⟨?_,ct (by omega) (by omega)⟩,?_⟩,ct (by omega) (by omega)⟩,?_⟩,ct (by omega) (by omega)⟩,?_⟩,ct (by omega) (by omega)⟩,?_⟩,ct (by omega) (by omega)⟩,?_⟩<;>first|omega|exact ⟨by omega,trivial⟩
theorem HG {j:Nat} (hj:j<64):rnO (j:Int)=true:=by
 unfold rnO
 simp only [aC,aab,true_and]
 refine ⟨⟨⟨⟨?_,ct (by omega) (by omega)⟩,?_⟩,ct (by omega) (by omega)⟩,?_⟩<;>omega
theorem LI (s:List Int) (k w:Int):cG 8 (Ek s k w)=Ek s k w:=rfl
theorem zy (s k w:List Int):∀j,cG 8 (pV (cG 8 s) k w j)=pV (cG 8 s) k w j
 |0=>bN (aT _ _)
 |_+1=>LI _ _ _
theorem Rg (st r p kk:List Int) (n:Int):Tr prog none 2 (au 4 wB) (wS (cG 8 st) r n kk (Ej p) 16) .normal (wS (cG 8 st) r n kk (sched (Ej p) 48) 64):=by
 have key:=Tr.loop (P:=prog) (ro:=none) (k:=2) 2 (c:=au 4 wB) (by kernel_rfl) (λj:Nat=>wS (cG 8 st) r n kk (sched (Ej p) j) (16+j)) 48 (s':=wS (cG 8 st) r n kk (sched (Ej p) 48) 64) (λj hj=>?_) ?_
 ·exact key
 ·have k:=Rd (cG 8 st) r kk (sched (Ej p) j) n (16+j)
  rw [vT,LH,HF hj,Rf hj,wrap_i64 _ (by omega) (by omega)] at k
  refine Tr.post (Tr.cut (CB true true) 200 _ 3 (by omega) k rfl) (bE.same ?_ ?_)
  ·show (wS _ _ _ _ _ _).t=(wS _ _ _ _ _ _).t
   rw [show ((16:Int)+(j:Int)+1)=16+((j+1:Nat):Int) by omega];rfl
  ·show (wS _ _ _ _ _ _).h=(wS _ _ _ _ _ _).h
   rw [show 0+((16:Int)+(j:Int)).toNat=16+j by omega];rfl
 ·have k:=LG (cG 8 st) r kk (sched (Ej p) 48) n 64
  exact Tr.post (Tr.cut (CB false true) 200 _ 3 (by omega) k rfl) (bE.same rfl rfl)
theorem LJ (st r kk w:List Int) (n:Int):Tr prog none 2 (au 7 wB) (wR (cG 8 st) r n kk w st 0) .normal (wR (cG 8 st) r n kk w (pV (cG 8 st) kk w 64) 64):=by
 have key:=Tr.loop (P:=prog) (ro:=none) (k:=2) 4 (c:=au 7 wB) (by kernel_rfl) (λj:Nat=>wR (cG 8 st) r n kk w (pV (cG 8 st) kk w j) j) 64 (s':=wR (cG 8 st) r n kk w (pV (cG 8 st) kk w 64) 64) (λj hj=>?_) ?_
 ·refine Tr.pre key (bE.same rfl ?_)
  show (wR _ _ _ _ _ _ _).h=(wR _ _ _ _ _ _ _).h
  unfold wR
  simp only [pV]
  rw [bN (aT 8 st)]
 ·have k:=XZ (cG 8 st) r kk w (pV (cG 8 st) kk w j) n j
  rw [HG hj,wrap_i64 _ (by omega) (by omega),zy] at k
  refine Tr.post (Tr.cut (CB true true) 200 _ 4 (by omega) k rfl) (bE.same ?_ ?_)
  ·show (wR _ _ _ _ _ _ _).t=(wR _ _ _ _ _ _ _).t
   rw [show ((j:Int)+1)=((j+1:Nat):Int) by omega];rfl
  ·show (wR _ _ _ _ _ _ _).h=(wR _ _ _ _ _ _ _).h
   rw [show 0+(j:Int).toNat=j by omega];rfl
 ·have k:=Re (cG 8 st) r kk w (pV (cG 8 st) kk w 64) n 64
  exact Tr.post (Tr.cut (CB true false) 200 _ 4 (by omega) k rfl) (bE.same rfl rfl)
theorem zq {st p kk:List Int} (r:List Int) (n:Int) (hs:st.length=8) (hp:p.length=64):ai prog 210 [.ptr 0 0 0,.ro false .u8 p,.ptr 1 0 0] [dg st r n,.b [.ints .u32 64 kk]] (.bC []) [dg (gG st p kk) r n,.b [.ints .u32 64 kk]]:=by
 have key:ai prog 210 [.ptr 0 0 0,.ro false .u8 (cG 64 p),.ptr 1 0 0] [dg (cG 8 st) r n,.b [.ints .u32 64 kk]] (.bC []) [dg (gG (cG 8 st) p kk) r n,.b [.ints .u32 64 kk]]:=by
  rw [gG,fh]
  refine ai.mE Bb 200 8 2 func210 (by simp) rfl (λs' x h=>?_) (s:=wR (cG 8 st) r n kk (sched (Ej p) 48) (pV (cG 8 st) kk (sched (Ej p) 48) 64) 64) (p:=true) (by rw [<-zy];kernel_rfl) rfl rfl rfl
  refine aV.items Bb 200 4 _ 3 (by simp) (Rc (cG 8 st) r p kk n) rfl (by decide) ?_
  refine aV.item 4 (by decide) (Rg st r p kk n) ?_
  refine aV.items Bb 200 2 _ 4 (by simp) (XY st r kk _ n 64) rfl (by decide) ?_
  exact aV.item 7 (by decide) (LJ st r kk _ n) h
 rw [bN hp,bN hs] at key
 exact key
def rq (vs:List SV) (_:List Blk):List Nat:=match vs with
 | [.ptr a _ _,_,.ptr b _ _]=>[a,b]
 |_=>[]
def HH:List SV->List Blk->Option (SV×List Blk×Bool)
 | [.ptr 0 0 0,.ro false .u8 p,.ptr 1 0 0],[.b [.ints .u32 8 st,.ro true .u8 r,.int .i64 n],.b [.ints .u32 64 kk]]=>some (.bC [],[dg (gG st p kk) r n,.b [.ints .u32 64 kk]],decide (st.length=8)&&decide (p.length=64))
 |_,_=>none
def Bc:Entry prog:=.mut 210 _ func210 (by decide) rfl rq 0 HH λvs h0 v h1 e=>by
 unfold HH at e
 split at e
 ·simp only [No,aae,aac,aab] at e
  obtain ⟨rfl,rfl,hs,hp⟩:=e
  exact zq _ _ hs hp
 ·cases e
end Go.Proofs.YthlnlcijnoadcaaGreatDoor.S2
end
section
namespace Go.Proofs.YthlnlcijnoadcaaGreatDoor.S2
open Go Go.Sy Sh
def jq (p kk st:List Int):Nat->List Int
 |0=>st
 |j+1=>gG (jq p kk st j) ((p.drop (64*j)).take 64) kk
theorem Bd (s p k:List Int):(gG s p k).length=8:=by rw [gG,fh];simp [zx]
theorem r9 {p kk st:List Int} (h:st.length=8):∀j,(jq p kk st j).length=8
 |0=>h
 |_+1=>Bd _ _ _
def si:List Int:=(List.range 8).map λi=>V (e6 .u64 (bL.getD i 0) 32)
theorem xC:si.length=8:=by simp [si]
def nwC:bO:=mk (P:=prog) [Rh] []
theorem Ri:ak prog nwC:=az _ aL.nil _ _
theorem Rj:ai prog 166 [] [] (.ptr 0 0 0) [dg si [] 0]:=by
 have k:ai prog 166 [] [] (.ptr 0 0 0) [.b [.ints .u32 8 si,.nl (.slice none 0 0),.int .i64 0]]:=
  lK Ri 200 func166 1 (by simp) (p:=true) (by kernel_rfl) rfl rfl rfl
 refine ai.conv k trivial trivial (VE.refl _) ⟨⟨rfl,?_⟩,trivial⟩
 rintro e xs ⟨zs,⟨y,us,hy,h2,rfl⟩,rfl⟩
 have hy':y= .slice none 0 0:=hy
 subst hy'
 exact ⟨_,⟨.slice none 0 0,us,.inl ⟨rfl,none,0,rfl,λ_=>rfl⟩,h2,rfl⟩,rfl⟩
def newF:List SV->Option (SV×List Blk×Bool)
 | []=>some (.ptr 0 0 0,[dg si [] 0],true)
 |_=>none
def adT:Entry prog:=.val 166 _ func166 (by decide) rfl false 1 newF λvs v new e=>by
 unfold newF at e
 split at e
 ·cases e;exact Rj
 ·cases e
def adC (b:Bool):bO:=mk (P:=prog) [LK,xB,Bc,HI] [] λi=>if i=27 then some b else none
theorem xD (b:Bool):ak prog (adC b):=az _ aL.nil _ _
def aB:Code:=aP f167
def aS (st r b:List Int) (n:Int) (kk all:List Int):St:=⟨slotsOf 39 [(0,.ptr 0 0 0),(4,.ro true .u8 all),(5,.ptr 2 0 0)],[dg st r n,.b [.ro true .u8 r,.ro false .u8 b],.b [.ints .u32 64 kk]],true⟩
section
variable (st r b kk all:List Int) (n:Int)
theorem LL:(aE prog (adC true) 60 1 5 (atoms aB) ⟨aD f167.ntmps [.ptr 0 0 0,.ro false .u8 b],[dg st r n],true⟩).bind (St.cut [0,4,5] 3)=
  some {aS st r b (i64.wrap (n+b.length)) lT [r,b].flatten with ob:=aa true (aa true (decide ([r,b].flatten.length<=274877906944)&&true))}:=by kernel_rfl
theorem Rk:(exec prog (adC true) 60 1 (inner (inner (au 5 aB))) (aS st r b n kk all)).bind (λr=>(r.2.cut [0,4,5] 3).map λq=>(r.1,q))=
  some (.normal,{aS (gG st (all.take 64) kk) r b n kk (all.drop 64) with ob:=aa (aa (aa (aa true (decide ((all.length:Int)>=64))) (aa true (true&&decide ((64:Int)<=all.length)))) (aa true (decide (st.length=8)&&decide ((all.take 64).length=64)))) (aa true (aa true (true&&decide ((64:Int)<=all.length))))}):=by kernel_rfl
theorem Rl:(exec prog (adC false) 60 1 (inner (inner (au 5 aB))) (aS st r b n kk all)).bind (λr=>(r.2.cut [0,4,5] 3).map λq=>(r.1,q))=
  some (.exit 0,{aS st r b n kk all with ob:=aa true (!decide ((all.length:Int)>=64))}):=by kernel_rfl
end
theorem LM {st r b kk all:List Int} (n:Int) (hs:st.length=8):Tr prog none 1 (au 5 aB) (aS st r b n kk all) .normal (aS (jq all kk st (all.length/64)) r b n kk (all.drop (64*(all.length/64)))):=by
 have key:=Tr.loop (P:=prog) (ro:=none) (k:=1) 0 (c:=au 5 aB) (by kernel_rfl) (λj:Nat=>aS (jq all kk st j) r b n kk (all.drop (64*j))) (all.length/64) (s':=aS (jq all kk st (all.length/64)) r b n kk (all.drop (64*(all.length/64)))) (λj hj=>?_) ?_
 ·exact key
 ·have k:=Rk (jq all kk st j) r b kk (all.drop (64*j)) n
  have hl:64<=(all.drop (64*j)).length:=by rw [aaN];omega
  rw [aa4,Me (show ((all.drop (64*j)).length:Int)>=64 by omega),Me (r9 hs j),Me (show ((all.drop (64*j)).take 64).length=64 by rw [aaU];omega)] at k
  refine Tr.post (Tr.cut (xD true) 60 _ 3 (by omega) k rfl) (bE.same ?_ rfl)
  show (aS [] r b 0 kk _).t=(aS [] r b 0 kk _).t
  rw [show 64*j+64=64*(j+1) by omega]
 ·have k:=Rl (jq all kk st (all.length/64)) r b kk (all.drop (64*(all.length/64))) n
  have hl:¬((all.drop (64*(all.length/64))).length:Int)>=64:=by rw [aaN];omega
  exact Tr.post (Tr.cut (xD false) 60 _ 3 (by omega) k (by rw [aam hl];rfl)) (bE.same rfl rfl)
theorem Rm {st r b:List Int} (n:Int) (hs:st.length=8) (hb:r.length+b.length<274877900000):ai prog 167 [.ptr 0 0 0,.ro false .u8 b] [dg st r n] (.bC [])
  [dg (jq (r++b) lT st ((r++b).length/64)) ((r++b).drop (64*((r++b).length/64))) (i64.wrap (n+b.length))]:=by
 have hl:(r++b).length=r.length+b.length:=aar
 have hh:=LL st r b n
 have e:[r,b].flatten=r++b:=by simp
 rw [e,Me (show (r++b).length<=274877906944 by omega)] at hh
 generalize r++b=all at*
 have hd:(all.drop (64*(all.length/64))).length<=274877906944:=by rw [aaN];omega
 have k2:ai prog 167 [.ptr 0 0 0,.ro false .u8 b] [dg st r n] (.bC [])
   [.b [.ints .u32 8 (jq all lT st (all.length/64)),.sl 3 0 0 1 (all.drop (64*(all.length/64))).length (all.drop (64*(all.length/64))).length false true,.int .i64 (i64.wrap (n+b.length))],.b [.ro true .u8 r,.ro false .u8 b],.b [.ints .u32 64 lT],.b [.ints .u8 (all.drop (64*(all.length/64))).length (all.drop (64*(all.length/64)))]]:=by
  refine ai.mE (xD true) 60 6 4 func167 (by simp) rfl (λs' x h=>?_) (s:=aS (jq all lT st (all.length/64)) r b (i64.wrap (n+b.length)) lT (all.drop (64*(all.length/64))))
   (p:=aa (aa true (aa true (decide ((all.drop (64*(all.length/64))).length<=274877906944)))) true) (by kernel_rfl) (by rw [Me hd];rfl) rfl rfl
  refine aV.items (xD true) 60 5 _ 3 (by simp) hh rfl (by decide) ?_
  exact aV.item 5 (by decide) (Tr.pre (LM _ hs) (bE.same rfl rfl)) h
 generalize all.drop (64*(all.length/64))=al at*
 have k3:=ai.fz 3 1 (by simp) (by simp) k2 (u:=.bC []) (h2:=[dg (jq all lT st (all.length/64)) al (i64.wrap (n+b.length))]) (p:=aa (decide (al.length=al.length)) (aa true (aa true (true&&(true&&decide (al.length=al.length)))))) (by kernel_rfl) (by rw [Me rfl];rfl)
 exact k3
def Ca (vs:List SV) (_:List Blk):List Nat:=match vs with
 | .ptr a _ _::_=>[a]
 |_=>[]
def X0:List SV->List Blk->Option (SV×List Blk×Bool)
 | [.ptr 0 0 0,.ro false .u8 b],[.b [.ints .u32 8 st,.ro true .u8 r,.int .i64 n]]=>some (.bC [],[dg (jq (r++b) lT st ((r++b).length/64)) ((r++b).drop (64*((r++b).length/64))) (i64.wrap (n+b.length))],decide (st.length=8)&&decide (r.length+b.length<274877900000))
 |_,_=>none
def XP:Entry prog:=.mut 167 _ func167 (by decide) rfl Ca 0 X0 λvs h0 v h1 e=>by
 unfold X0 at e
 split at e
 ·simp only [No,aae,aac,aab] at e
  obtain ⟨rfl,rfl,hs,hb⟩:=e
  exact Rm _ hs hb
 ·cases e
def X1 (x:Bool):bO:=mk (P:=prog) [CC,HJ,xB,Bc] [] λi=>if i=9 then some x else none
theorem xF (x:Bool):ak prog (X1 x):=az _ aL.nil _ _
def adU:bO:=mk (P:=prog) [CC,HJ,xB,Bc] []
theorem LN:ak prog adU:=az _ aL.nil _ _
def uB:Code:=aP f168
def uC:Code:=au 6 uB
def cH:List Int:=List.replicate 32 0
def uT:List (Option SV):=slotsOf 52 [(2,.ptr 1 0 0),(3,.ptr 2 0 0),(4,.ptr 3 0 0),(25,.fn (.func 250) [] [.ptr 4 0 0,.ptr 5 0 0])]
def uK (rS r:List Int) (n:Int) (p kk st:List Int):List Blk:=[dg rS r n,.b [.ints .u8 32 cH],dg st r n,.b [.ints .u32 64 kk],.b [.ro false .u8 p],.b [.int .i64 64]]
def uH (rS r:List Int) (n:Int) (p kk st:List Int) (l:Nat):List Blk:=[dg rS r n,.b [.ints .u8 32 cH],dg st r n,.b [.ints .u32 64 kk],.b [.ro false .u8 p],.b [.int .i64 64],.g (some (JW uC uT l))]
def uS (rS r:List Int) (n:Int) (p kk st:List Int) (l:Nat) (i:Int):St:=⟨slotsOf 31 [(0,.fn (.yield l) [] []),(1,.ptr 4 0 0),(2,.ptr 5 0 0),(4,.int .i64 i)],uH rS r n p kk st l,true⟩
def vU (p:List Int) (i:Int):Int:=i64.wrap (i+if ((p.drop i.toNat).length:Int)<64 then ((p.drop i.toNat).length:Int) else 64)
def UU (p:List Int) (i:Int):List Int:=(p.drop i.toNat).take ((vU p i).toNat-i.toNat)
def ckO (p st:List Int) (i:Int) (l:Nat):Bool:=
 aa (aa (aa (aa true (decide (i<p.length))) (aa true (aa true (decide (0<=i)&&decide (i<=p.length)))))
  (aa (decide (0<=vU p i)&&decide (vU p i<=p.length)) (aa (decide (0<=vU p i)&&decide (vU p i<=(vU p i).toNat)) (decide (0<=i)&&decide (i<=(vU p i).toNat)))))
  (aa (aa (aa (decide (l=l)) (decide (l=l))) (aa true (decide (st.length=8)&&decide ((UU p i).length=64)))) (decide (l=l)))
section
variable (rS r p kk st:List Int) (n:Int) (l:Nat) (i:Int)
theorem Rn:(exec prog (X1 true) 60 7 (inner (inner (au 1 uh))) (uS rS r n p kk st l i)).bind (λr=>(r.2.cut [0,1,2,4] 7).map λq=>(r.1,q))=
  some (.normal,{uS rS r n p kk (gG st (UU p i) kk) l (i64.wrap (i+64)) with ob:=ckO p st i l}):=by kernel_rfl
theorem Be:(exec prog (X1 false) 60 7 (inner (inner (au 1 uh))) (uS rS r n p kk st l i)).bind (λr=>(r.2.cut [0,1,2,4] 7).map λq=>(r.1,q))=
  some (.exit 0,{uS rS r n p kk st l i with ob:=aa true (!decide (i<p.length))}):=by kernel_rfl
theorem HK:(aE prog (X1 true) 60 7 1 (atoms uh) ⟨aD f250.ntmps [.fn (.yield l) [] [],.ptr 4 0 0,.ptr 5 0 0],uH rS r n p kk st l,true⟩).bind (St.cut [0,1,2,4] 7)=some (uS rS r n p kk st l 0):=by kernel_rfl
end
theorem X2 {p st:List Int} (hs:st.length=8) {N j:Nat} (hp:p.length=64*N) (hj:j<N) (hb:N<10000000000) (l:Nat):UU p (64*j:Nat)=(p.drop (64*j)).take 64/\ckO p st (64*j:Nat) l=true:=by
 have hd:(p.drop (64*j)).length=64*N-64*j:=by rw [aaN,hp]
 have he:vU p (64*j:Nat)=((64*j+64:Nat):Int):=by
  unfold vU
  rw [aaa,hd,aaC (by omega),wrap_i64 _ (by omega) (by omega)];omega
 have hw:UU p (64*j:Nat)=(p.drop (64*j)).take 64:=by
  unfold UU
  rw [he,aaa,aaa,adP]
 refine ⟨hw,?_⟩
 have hl:((p.drop (64*j)).take 64).length=64:=by rw [aaU,hd];omega
 unfold ckO
 rw [hw,he,hl,hs]
 simp only [aC,aac,aab,true_and,aeJ,aaa,hp]
 repeat' apply And.intro
 all_goals omega
theorem LO (rS r:List Int) (n:Int) {p:List Int} {N:Nat} (hp:p.length=64*N) (hb:N<10000000000) (kk:List Int) {st:List Int} (hs:st.length=8) (l:Nat):
  ai prog 250 [.fn (.yield l) [] [],.ptr 4 0 0,.ptr 5 0 0] (uH rS r n p kk st l) (.bC []) (uH rS r n p kk (jq p kk st N) l):=by
 have HL:Tr prog none 7 (au 1 uh) (uS rS r n p kk st l 0) .normal (uS rS r n p kk (jq p kk st N) l (64*N:Nat)):=by
  have key:=Tr.loop (P:=prog) (ro:=none) (k:=7) 0 (c:=au 1 uh) (by kernel_rfl) (λj:Nat=>uS rS r n p kk (jq p kk st j) l (64*j:Nat)) N (s':=uS rS r n p kk (jq p kk st N) l (64*N:Nat)) (λj hj=>?_) ?_
  ·exact key
  ·obtain ⟨h1,h2⟩:=X2 (r9 (p:=p) (kk:=kk) hs j) hp hj hb l
   have k:=Rn rS r p kk (jq p kk st j) n l (64*j:Nat)
   rw [h1,h2,wrap_i64 _ (by omega) (by omega)] at k
   refine Tr.post (Tr.cut (xF true) 60 _ 7 (by omega) k rfl) (bE.same ?_ rfl)
   show (uS rS r n p kk st l _).t=(uS rS r n p kk st l _).t
   rw [show ((64*j:Nat):Int)+64=((64*(j+1):Nat):Int) by omega]
  ·have k:=Be rS r p kk (jq p kk st N) n l (64*N:Nat)
   exact Tr.post (Tr.cut (xF false) 60 _ 7 (by omega) k (by rw [hp];simp [aa])) (bE.same rfl rfl)
 refine ai.mk (vs:=[]) func250 rfl (x:=.normal) (s:=uS rS r n p kk (jq p kk st N) l (64*N:Nat)) ?_ (.inr rfl) (by kernel_rfl)
 refine aV.items (xF true) 60 1 _ 7 (by simp [uH]) (HK rS r p kk st n l) rfl (by decide) ?_
 exact aV.item 1 (by decide) HL ⟨rfl,rfl⟩
def DP (s:List Int):List Int:=(List.range 32).map λi=>u8.wrap (e6 .u32 (s.getD (i/4) 0) (24-8*(i%4)))
def mL (r:List Int) (n:Int):List Int:=eE r 64 56++El n
theorem HM (r:List Int) (n:Int):(mL r n).length=64*((mL r n).length/64)/\(mL r n).length<=r.length+73:=by
 have h:=(pW (len:=r.length) (show 56<64 by omega)).1
 have hK:c9 r.length 64 56<64:=Nat.mod_lt _ (by omega)
 have hl:(mL r n).length=r.length+1+c9 r.length 64 56+8:=by unfold mL;rw [aar,g7];rfl
 rw [hl];omega
def zA (st r:List Int) (n:Int):List Int:=DP (jq (mL r n) lT st ((mL r n).length/64))
theorem LP (st r:List Int) (n:Int):(aE prog (X1 true) 60 1 6 (atoms uB) ⟨aD f168.ntmps [.ptr 0 0 0],[dg st r n],true⟩).bind (St.cut [2,3,4,25] 6)=
  some ⟨uT,uK st r n (mL r n) lT st,aa true (aa true (decide (r.length<274877900000)))⟩:=by kernel_rfl
theorem Ro {st r:List Int} (n:Int) (hs:st.length=8) (hr:r.length<274877900000):ai prog 168 [.ptr 0 0 0] [dg st r n] (.agg [.ints .u8 32 (zA st r n)]) [dg st r n]:=by
 obtain ⟨hp,hq⟩:=HM r n
 unfold zA
 generalize hN:(mL r n).length/64=N at hp
 refine ai.mE LN 60 7 1 func168 (by simp) rfl (λs' x h=>?_) (s:=⟨uT,uK st r n (mL r n) lT (jq (mL r n) lT st N)++[.gap],true⟩) (p:=true) (by kernel_rfl) rfl rfl rfl
 refine aV.items (xF true) 60 6 _ 6 (by simp) (LP st r n) (by rw [Me hr];rfl) (by decide) ?_
 refine aV.item 6 (by decide) ?_ h
 exact Tr.w9 0 (by kernel_rfl) (f:=250) (first:=[]) (lO:=[.ptr 4 0 0,.ptr 5 0 0]) true func250 (by decide) rfl (by kernel_rfl) (λl=>LO st r n hp (by omega) lT hs l)
  (λl=>⟨_,rfl,rfl,by simp [JW],rfl⟩) (λl=>rfl)
def Cg (vs:List SV):List Nat:=match vs with
 | [.ptr a _ _]=>[a]
 |_=>[]
def X3:List SV->List Blk->Option (SV×Bool)
 | [.ptr 0 0 0],[.b [.ints .u32 8 st,.ro true .u8 r,.int .i64 n]]=>some (.agg [.ints .u8 32 (zA st r n)],decide (st.length=8)&&decide (r.length<274877900000))
 |_,_=>none
def adW:Entry prog:=.rdm 168 _ func168 (by decide) rfl Cg X3 λvs h0 v e=>by
 unfold X3 at e
 split at e
 ·simp only [No,aae,aac,aab] at e
  obtain ⟨rfl,hs,hb⟩:=e
  exact Ro _ hs hb
 ·cases e
end Go.Proofs.YthlnlcijnoadcaaGreatDoor.S2
end
