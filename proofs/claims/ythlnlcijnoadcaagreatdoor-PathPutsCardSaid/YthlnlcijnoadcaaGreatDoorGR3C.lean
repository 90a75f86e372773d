/- This file holds the texts Me, CcA, R3A, R3B, R3C, a section each. No conditions beyond those in the theorems. -/
import Derived.Test.YthlnlcijnoadcaaGreatDoorGMd
import Derived.Test.YthlnlcijnoadcaaGreatDoorChecked
import Derived.Laws.Externs
import Derived.Laws.BitsLemmas
import Derived.IntWalk
import Derived.Test.YthlnlcijnoadcaaGreatDoorGS2B
import Derived.Test.YthlnlcijnoadcaaGreatDoorGShF
import Derived.Test.YthlnlcijnoadcaaGreatDoorGShK
import Derived.Lib.EndianBits
noncomputable section
open Go.Proofs.Tryz
open Go.IntKind (i64 u8 u64 u32)
set_option linter.all false
set_option maxRecDepth 100000
section
namespace Go.Proofs.YthlnlcijnoadcaaGreatDoor.Fe
open Go Go.Sy
def inU (m:Int) (x:Int):Bool:=decide (0<=x)&&decide (x<m)
def u64 (x:Int):Bool:=inU 18446744073709551616 x
def u8 (x:Int):Bool:=inU 256 x
theorem wrap_u64 (n:Int):IntKind.u64.wrap n=n%18446744073709551616:=by simp [IntKind.wrap,IntKind.signed,IntKind.bits]
theorem wrap_u8 (n:Int):IntKind.u8.wrap n=n%256:=by simp [IntKind.wrap,IntKind.signed,IntKind.bits]
theorem wrap_i64 (n:Int) (h0: -9223372036854775808<=n) (h1:n<9223372036854775808):i64.wrap n=n:=IntWalk.i64_in n (by omega)
theorem Hw (k:IntKind) (a:Int) (n:Nat) (hn:n<=k.bits):e6 k a n=a/2^n:=by
 unfold e6
 rw [ab6 hn,Int.fdiv_eq_ediv_of_nonneg]
 exact_mod_cast aap (2^n)
theorem XM (a:Int) (n:Nat) (hn:n<=64):jS .u64 a n=a*2^n%18446744073709551616:=by
 unfold jS
 rw [show min n IntKind.u64.bits=n from ab6 hn,wrap_u64]
def Q1 (x y c:Int):Int:=uQ (Int.ofNat ((x.toNat+y.toNat+c.toNat)%Extern.MathBitsCarry.m64))
def Q3 (x y c:Int):Int:=uQ (Int.ofNat ((x.toNat+y.toNat+c.toNat)/Extern.MathBitsCarry.m64))
def Q4 (c:Int):Bool:=decide (c.toNat<=1)
def adx:List SV->Option (SV×Bool)
 | [.int .u64 x,.int .u64 y,.int .u64 c]=>some (.bC [.int .u64 (Q1 x y c),.int .u64 (Q3 x y c)],Q4 c)
 |_=>none
theorem pT:ak prog (mk (P:=prog) [] []):=az [] aL.nil _ _
def XN (x y:Int):Int:=IntKind.u64.wrap (IntKind.u64.wrap (e6 .u64 x 32*hD .u64 y 4294967295)+e6 .u64 (IntKind.u64.wrap (hD .u64 x 4294967295*hD .u64 y 4294967295)) 32)
def ady (x y:Int):Int:=uQ (IntKind.u64.wrap (IntKind.u64.wrap (IntKind.u64.wrap (e6 .u64 x 32*e6 .u64 y 32)+e6 .u64 (XN x y) 32)+
 e6 .u64 (IntKind.u64.wrap (hD .u64 (XN x y) 4294967295+IntKind.u64.wrap (hD .u64 x 4294967295*e6 .u64 y 32))) 32))
def mulL (x y:Int):Int:=uQ (IntKind.u64.wrap (x*y))
end Go.Proofs.YthlnlcijnoadcaaGreatDoor.Fe
namespace Go.Proofs.YthlnlcijnoadcaaGreatDoor.Fe
open Go Go.Sy
theorem VE.cG (k:IntKind) (n:Nat) (l:List Int):VE (.agg [.ints k n l]) (.agg [.ints k n (cG n l)]):=λe _ ⟨ys,h1,h2⟩=>⟨ys,(PE.cG k n l).2 e ys h1,h2⟩
abbrev vS (n:Int):Int:=IntKind.u64.wrap n
abbrev Hx (n:Int):Int:=hD .u64 n 2251799813685247
abbrev vj (n:Int):Int:=e6 .u64 n 51
def cw0 (l:List Int):Int:=vS (l.getD 0 0+0)
def cw1 (l:List Int):Int:=vS (l.getD 1 0+vj (cw0 l))
def cw2 (l:List Int):Int:=vS (l.getD 2 0+vj (cw1 l))
def cw3 (l:List Int):Int:=vS (l.getD 3 0+vj (cw2 l))
def cw4 (l:List Int):Int:=vS (l.getD 4 0+vj (cw3 l))
def OE (l:List Int):List Int:=[vS (Hx (cw0 l)+vS (19*vj (cw4 l))),Hx (cw1 l),Hx (cw2 l),Hx (cw3 l),Hx (cw4 l)]
def Hy (l:List Int):List Int:=uQ (OE (OE (cG 5 l)))
def OF:List SV->Option (SV×List Blk×Bool)
 | [.agg [.ints .u64 5 l]]=>some (.agg [.ints .u64 5 (Hy l)],[],true)
 |_=>none
theorem Q5 (l:List Int):ai prog 196 [.agg [.ints .u64 5 l]] [] (.agg [.ints .u64 5 (Hy l)]) []:=by
 refine ai.conv (bs:=[.agg [.ints .u64 5 (cG 5 l)]]) (h2:=[]) (h1:=[]) (v:=.agg [.ints .u64 5 (Hy l)]) ?_ ⟨VE.cG _ _ _,trivial⟩ trivial (VE.refl _) trivial
 rw [Hy,fh]
 exact aI pT 100 func196 (p:=true) (by kernel_rfl) rfl rfl
def adz:Entry prog:=.val 196 _ func196 (by decide) rfl false 0 OF λvs v new e=>by
 unfold OF at e
 split at e
 ·cases e;exact Q5 _
 ·cases e
def XO (a b:List Int):List Int:=[vS (a.getD 0 0+b.getD 0 0),vS (a.getD 1 0+b.getD 1 0),vS (a.getD 2 0+b.getD 2 0),vS (a.getD 3 0+b.getD 3 0),vS (a.getD 4 0+b.getD 4 0)]
def OG (a b:List Int):List Int:=Hy (XO a b)
def OH:List SV->Option (SV×List Blk×Bool)
 | [.agg [.ints .u64 5 a],.agg [.ints .u64 5 b]]=>some (.agg [.ints .u64 5 (OG a b)],[],true)
 |_=>none
theorem Q6:ak prog (mk [adz] []):=az _ aL.nil _ _
def XP:Entry prog:=.val 240 _ func240 (by decide) rfl false 0 OH λvs v new e=>by
 unfold OH at e
 split at e
 ·rename_i a b
  cases e
  refine ai.conv (bs:=[.agg [.ints .u64 5 (cG 5 a)],.agg [.ints .u64 5 (cG 5 b)]]) (h2:=[]) (h1:=[]) (v:=.agg [.ints .u64 5 (OG a b)]) ?_ ⟨VE.cG _ _ _,VE.cG _ _ _,trivial⟩ trivial (VE.refl _) trivial
  exact aI Q6 100 func240 (p:=true) (by kernel_rfl) rfl rfl
 ·cases e
end Go.Proofs.YthlnlcijnoadcaaGreatDoor.Fe
namespace Go.Proofs.YthlnlcijnoadcaaGreatDoor.Fe
open Go Go.Sy
def pl (s:Int×Int) (x y:Int):Int×Int:=(vS (s.1+vS (ady x y+Q3 s.2 (mulL x y) 0)),Q1 s.2 (mulL x y) 0)
def nx (s:Int×Int) (c:Int):Int:=Dc .u64 (vj (Q1 s.2 c 0)) (jS .u64 (vS (s.1+Q3 s.2 c 0)) 13)
end Go.Proofs.YthlnlcijnoadcaaGreatDoor.Fe
namespace Go.Proofs.YthlnlcijnoadcaaGreatDoor.Fe
open Go Go.Sy
def ix:Nat->Int
 |0=>7
 |k+1=>i64.wrap (ix k-1)
def t0 (a:List Int):Int:=vS (a.getD 0 0+19)
def t1 (a:List Int):Int:=vS (a.getD 1 0+vj (t0 a))
def t2 (a:List Int):Int:=vS (a.getD 2 0+vj (t1 a))
def t3 (a:List Int):Int:=vS (a.getD 3 0+vj (t2 a))
def t4 (a:List Int):Int:=vS (a.getD 4 0+vj (t3 a))
end Go.Proofs.YthlnlcijnoadcaaGreatDoor.Fe
namespace Go.Proofs.YthlnlcijnoadcaaGreatDoor.Fe
open Go Go.Sy
section
variable (e a o:List Int) (l:Nat) (i:Int)
end
end Go.Proofs.YthlnlcijnoadcaaGreatDoor.Fe
namespace Go.Proofs.YthlnlcijnoadcaaGreatDoor.Fe
open Go Go.Sy
def e2:List Int:=235::(List.replicate 30 255++[127])
def e1:List Int:=251::(List.replicate 30 255++[31])
def e5:List Int:=253::(List.replicate 30 255++[15])
end Go.Proofs.YthlnlcijnoadcaaGreatDoor.Fe
end
section
namespace Go.Proofs.YthlnlcijnoadcaaGreatDoor.Cc
open Go Go.Sy Sh
abbrev V (n:Int):Int:=IntKind.u32.wrap n
def qr (a b c d:Int):Int×Int×Int×Int:=
 let a1:=V (a+b)
 let d1:=S2.rR (eZ .u32 d a1) 16
 let c1:=V (c+d1)
 let b1:=S2.rR (eZ .u32 b c1) 12
 let a2:=V (a1+b1)
 let d2:=S2.rR (eZ .u32 d1 a2) 8
 let c2:=V (c1+d2)
 (a2,S2.rR (eZ .u32 b1 c2) 7,c2,d2)
def Hz:bO:=mk (P:=prog) [S2.Lz] []
theorem jP:ak prog Hz:=az _ aL.nil _ _
def XQ:List SV->Option (SV×List Blk×Bool)
 | [.int .u32 a,.int .u32 b,.int .u32 c,.int .u32 d]=>some (.bC [.int .u32 (qr a b c d).1,.int .u32 (qr a b c d).2.1,.int .u32 (qr a b c d).2.2.1,.int .u32 (qr a b c d).2.2.2],[],true)
 |_=>none
def quE:Entry prog:=.val 262 _ func262 (by decide) rfl false 0 XQ λvs v new e=>by
 unfold XQ at e
 split at e
 ·cases e
  exact aI jP 60 func262 (p:=true) (by kernel_rfl) rfl rfl
 ·cases e
def On:bO:=mk (P:=prog) [] [] λi=>if i=8||i=12||i=15 then some false else none
theorem qz:ak prog On:=az _ aL.nil _ _
def chF:List SV->Option (SV×List Blk×Bool)
 | [.ro _ .u8 l,.int .i64 n]=>some (.nl .nilIface,[],decide (l.length=12)&&decide (0<=n)&&decide (n<=4294967295))
 |_=>none
def chE:Entry prog:=.val 229 _ func229 (by decide) rfl true 0 chF λvs v new e=>by
 unfold chF at e
 split at e
 ·rename_i f l n
  simp only [No,aae,aac,aab] at e
  obtain ⟨rfl,rfl,⟨h1,h2⟩,h3⟩:=e
  exact aI qz 60 func229 (p:=aa (aa (aa true (!(l.length:Int) != 12)) (!decide (n<0))) (!decide (n>4294967295))) (by kernel_rfl) (by rw [h1,aam (show ¬n<0 by omega),aam (show ¬n>4294967295 by omega)];rfl) rfl
 ·cases e
def wdL (l:List Int) (i:Nat):Int:=Dc .u32 (Dc .u32 (Dc .u32 (V (l.getD (4*i) 0)) (jS .u32 (V (l.getD (4*i+1) 0)) 8)) (jS .u32 (V (l.getD (4*i+2) 0)) 16)) (jS .u32 (V (l.getD (4*i+3) 0)) 24)
def HA (key eY:List Int) (n:Int):List Int:=[1634760805,857760878,2036477234,1797285236]++(List.range 8).map (wdL key)++[V n]++(List.range 3).map (wdL eY)
def qst (x:List Int) (q:Nat×Nat×Nat×Nat):List Int:=
 (((x.set q.1 (qr (x.getD q.1 0) (x.getD q.2.1 0) (x.getD q.2.2.1 0) (x.getD q.2.2.2 0)).1).set q.2.1 (qr (x.getD q.1 0) (x.getD q.2.1 0) (x.getD q.2.2.1 0) (x.getD q.2.2.2 0)).2.1).set q.2.2.1 (qr (x.getD q.1 0) (x.getD q.2.1 0) (x.getD q.2.2.1 0) (x.getD q.2.2.2 0)).2.2.1).set q.2.2.2 (qr (x.getD q.1 0) (x.getD q.2.1 0) (x.getD q.2.2.1 0) (x.getD q.2.2.2 0)).2.2.2
def qRd:List (Nat×Nat×Nat×Nat):=[(0,4,8,12),(1,5,9,13),(2,6,10,14),(3,7,11,15),(0,5,10,15),(1,6,11,12),(2,7,8,13),(3,4,9,14)]
def dbl (x:List Int):List Int:=qRd.foldl qst x
def pU (x:List Int):Nat->List Int
 |0=>x
 |j+1=>dbl (pU x j)
def pcO (s x:List Int):List Int:=(List.range 64).map λi=>IntKind.u8.wrap (e6 .u32 (V (x.getD (i/4) 0+s.getD (i/4) 0)) (8*(i%4)))
def pcW (key eY:List Int) (n:Int):List Int:=uQ (pcO (HA key eY n) (pU (HA key eY n) 10))
theorem XR:aL prog [(260,f260),(261,f261)]:=aL.cons func260 (by decide) (aL.cons func261 (by decide) aL.nil)
def pcC (b:Bool):bO:=mk (P:=prog) [quE,chE] [(260,f260),(261,f261)] λi=>if i=53 then some b else none
theorem HB (b:Bool):ak prog (pcC b):=az _ XR _ _
def XS:bO:=mk (P:=prog) [quE,chE] [(260,f260),(261,f261)]
theorem Cx:ak prog XS:=az _ XR _ _
def XT:Code:=aP f231
def z64:List Int:=List.replicate 64 0
def E2 (key s x:List Int) (i:Int):St:=⟨slotsOf 120 [(6,.ptr 1 0 0),(9,.ptr 2 0 0),(12,.ptr 3 0 0),(52,.int .i64 i)],[.b [.ints .u8 32 key],.b [.ints .u8 64 z64],.b [.ints .u32 16 s],.b [.ints .u32 16 (cG 16 x)]],true⟩
section
variable (key eY s x:List Int) (n i:Int)
theorem LA:(aE prog XS 200 0 11 (atoms XT) ⟨aD f231.ntmps [.agg [.ints .u8 32 key],.ro false .u8 (cG 12 eY),.int .i64 n],[],true⟩).bind (St.cut [6,9,12,52] 4)=
  some {E2 key (HA key eY n) (HA key eY n) 0 with ob:=aa true (aa true (true&&decide (0<=n)&&decide (n<=4294967295)))}:=by kernel_rfl
theorem Q7:(exec prog (pcC true) 200 0 (inner (inner (au 11 XT))) (E2 key s x i)).bind (λr=>(r.2.cut [6,9,12,52] 4).map λq=>(r.1,q))=
  some (.normal,{E2 key s (dbl (cG 16 x)) (i64.wrap (i+1)) with ob:=aa true (decide (i<10))}):=by kernel_rfl
theorem Q8:(exec prog (pcC false) 200 0 (inner (inner (au 11 XT))) (E2 key s x i)).bind (λr=>(r.2.cut [6,9,12,52] 4).map λq=>(r.1,q))=
  some (.exit 4,{E2 key s x i with ob:=aa true (!decide (i<10))}):=by kernel_rfl
end
theorem Cy (key eY:List Int) (n:Int):(HA key eY n).length=16:=rfl
theorem LB (x:List Int) (q:Nat×Nat×Nat×Nat):(qst x q).length=x.length:=by simp [qst]
theorem LC (x:List Int):(dbl x).length=x.length:=by
 unfold dbl
 generalize qRd=l
 induction l generalizing x with
 |nil=>rfl
 |cons q l ih=>rw [List.foldl_cons,ih,LB]
theorem ug (x:List Int):∀j,(pU x j).length=x.length
 |0=>rfl
 |j+1=>by rw [pU,LC,ug x j]
attribute [irreducible] dbl
theorem LD (key s:List Int) {x:List Int} (hx:x.length=16):Tr prog none 0 (au 11 XT) (E2 key s x 0) .normal (E2 key s (pU x 10) 10):=by
 have adE:=Tr.loop (P:=prog) (ro:=none) (k:=0) 4 (c:=au 11 XT) (by kernel_rfl) (λj:Nat=>E2 key s (pU x j) j) 10 (s':=E2 key s (pU x 10) 10) (λj hj=>?_) ?_
 ·exact adE
 ·have k:=Q7 key s (pU x j) j
  rw [bN (show (pU x j).length=16 by rw [ug,hx]),Me (show (j:Int)<10 by omega),wrap_i64 _ (by omega) (by omega)] at k
  refine Tr.post (Tr.cut (HB true) 200 _ 4 (by omega) k rfl) (bE.same ?_ rfl)
  show (E2 key s [] _).t=(E2 key s [] _).t
  rw [show ((j:Int)+1)=((j+1:Nat):Int) by omega]
 ·exact Tr.post (Tr.cut (HB false) 200 _ 4 (by omega) (Q8 key s (pU x 10) 10) rfl) (bE.same rfl rfl)
theorem zq {key eY:List Int} {n:Int} (hn:eY.length=12) (h0:0<=n) (h1:n<=4294967295):ai prog 231 [.agg [.ints .u8 32 key],.ro false .u8 eY,.int .i64 n] [] (.bC [.agg [.ints .u8 64 (pcW key eY n)],.nl .nilIface]) []:=by
 have k:ai prog 231 [.agg [.ints .u8 32 key],.ro false .u8 (cG 12 eY),.int .i64 n] [] (.bC [.agg [.ints .u8 64 (pcO (HA key eY n) (cG 16 (pU (HA key eY n) 10)))],.nl .nilIface]) []:=by
  refine ai.mE Cx 200 12 0 func231 (by simp) rfl (λs' x h=>?_) (s:=E2 key (HA key eY n) (pU (HA key eY n) 10) 10) (p:=true) ?_ rfl rfl rfl
  ·refine aV.items Cx 200 11 _ 4 (by simp) (LA key eY n) (by rw [Me h0,Me h1];rfl) (by decide) ?_
   exact aV.item 11 (by decide) (LD key _ (Cy _ _ _)) h
  ·generalize HA key eY n=s
   generalize pU s 10=y
   kernel_rfl
 rw [bN hn,bN (show (pU (HA key eY n) 10).length=16 by rw [ug,Cy])] at k
 rw [pcW,fh]
 exact k
end Go.Proofs.YthlnlcijnoadcaaGreatDoor.Cc
end
section
namespace Go.Proofs.YthlnlcijnoadcaaGreatDoor.R3
open Go Go.Sy Sh
abbrev V (n:Int):Int:=IntKind.u32.wrap n
def tu (x n:Int):Int:=V (jS .u32 x n.toNat+e6 .u32 x (IntKind.u64.wrap (32-n)).toNat)
def fK:List SV->Option (SV×List Blk×Bool)
 | [.int .u32 x,.int .u64 n]=>some (.int .u32 (tu x n),[],decide (0<=n)&&decide (n<=32))
 |_=>none
def tuE:Entry prog:=.val 276 _ func276 (by decide) rfl false 0 fK λvs v new e=>by
 unfold fK at e
 split at e
 ·rename_i x n
  simp only [No,aae,aac,aab] at e
  obtain ⟨rfl,rfl,h1,h2⟩:=e
  have hw:IntKind.u64.wrap (32-n)=32-n:=by simp [IntKind.wrap,IntKind.signed,IntKind.bits];omega
  exact aI pT 60 func276 (p:=aa (aa true (decide (0<=n))) (decide (0<=IntKind.u64.wrap (32-n)))) (by kernel_rfl) (by rw [hw,Me h1,Me (show 0<=32-n by omega)];rfl) rfl
 ·cases e
def qq (a b c d:Int):Int×Int×Int×Int:=
 let a1:=V (a+b)
 let d1:=tu (eZ .u32 d a1) 16
 let c1:=V (c+d1)
 let b1:=tu (eZ .u32 b c1) 12
 let a2:=V (a1+b1)
 let d2:=tu (eZ .u32 d1 a2) 8
 let c2:=V (c1+d2)
 (a2,tu (eZ .u32 b1 c2) 7,c2,d2)
def vk (x:List Int) (q:Nat×Nat×Nat×Nat):List Int:=
 (((x.set q.1 (qq (x.getD q.1 0) (x.getD q.2.1 0) (x.getD q.2.2.1 0) (x.getD q.2.2.2 0)).1).set q.2.1 (qq (x.getD q.1 0) (x.getD q.2.1 0) (x.getD q.2.2.1 0) (x.getD q.2.2.2 0)).2.1).set q.2.2.1 (qq (x.getD q.1 0) (x.getD q.2.1 0) (x.getD q.2.2.1 0) (x.getD q.2.2.2 0)).2.2.1).set q.2.2.2 (qq (x.getD q.1 0) (x.getD q.2.1 0) (x.getD q.2.2.1 0) (x.getD q.2.2.2 0)).2.2.2
def Hz:bO:=mk (P:=prog) [tuE] []
theorem jP:ak prog Hz:=az _ aL.nil _ _
def Q9 (a b c d:Int):Bool:=Cc.qRd.any λq=>decide (a=q.1)&&decide (b=q.2.1)&&decide (c=q.2.2.1)&&decide (d=q.2.2.2)
section
variable (x:List Int) (ex wh:Bool)
theorem adF:(aG prog Hz 60 f267 [.sl 0 0 0 1 16 16 ex wh,.int .i64 0,.int .i64 4,.int .i64 8,.int .i64 12] [.b [.ints .u32 16 (cG 16 x)]]).map (λr=>(r.1,r.2.1.take 1,r.2.2))=
  some (.bC [],[.b [.ints .u32 16 (vk (cG 16 x) (0,4,8,12))]],true):=by kernel_rfl
theorem adG:(aG prog Hz 60 f267 [.sl 0 0 0 1 16 16 ex wh,.int .i64 1,.int .i64 5,.int .i64 9,.int .i64 13] [.b [.ints .u32 16 (cG 16 x)]]).map (λr=>(r.1,r.2.1.take 1,r.2.2))=
  some (.bC [],[.b [.ints .u32 16 (vk (cG 16 x) (1,5,9,13))]],true):=by kernel_rfl
theorem adH:(aG prog Hz 60 f267 [.sl 0 0 0 1 16 16 ex wh,.int .i64 2,.int .i64 6,.int .i64 10,.int .i64 14] [.b [.ints .u32 16 (cG 16 x)]]).map (λr=>(r.1,r.2.1.take 1,r.2.2))=
  some (.bC [],[.b [.ints .u32 16 (vk (cG 16 x) (2,6,10,14))]],true):=by kernel_rfl
theorem adI:(aG prog Hz 60 f267 [.sl 0 0 0 1 16 16 ex wh,.int .i64 3,.int .i64 7,.int .i64 11,.int .i64 15] [.b [.ints .u32 16 (cG 16 x)]]).map (λr=>(r.1,r.2.1.take 1,r.2.2))=
  some (.bC [],[.b [.ints .u32 16 (vk (cG 16 x) (3,7,11,15))]],true):=by kernel_rfl
theorem adJ:(aG prog Hz 60 f267 [.sl 0 0 0 1 16 16 ex wh,.int .i64 0,.int .i64 5,.int .i64 10,.int .i64 15] [.b [.ints .u32 16 (cG 16 x)]]).map (λr=>(r.1,r.2.1.take 1,r.2.2))=
  some (.bC [],[.b [.ints .u32 16 (vk (cG 16 x) (0,5,10,15))]],true):=by kernel_rfl
theorem adK:(aG prog Hz 60 f267 [.sl 0 0 0 1 16 16 ex wh,.int .i64 1,.int .i64 6,.int .i64 11,.int .i64 12] [.b [.ints .u32 16 (cG 16 x)]]).map (λr=>(r.1,r.2.1.take 1,r.2.2))=
  some (.bC [],[.b [.ints .u32 16 (vk (cG 16 x) (1,6,11,12))]],true):=by kernel_rfl
theorem adL:(aG prog Hz 60 f267 [.sl 0 0 0 1 16 16 ex wh,.int .i64 2,.int .i64 7,.int .i64 8,.int .i64 13] [.b [.ints .u32 16 (cG 16 x)]]).map (λr=>(r.1,r.2.1.take 1,r.2.2))=
  some (.bC [],[.b [.ints .u32 16 (vk (cG 16 x) (2,7,8,13))]],true):=by kernel_rfl
theorem adM:(aG prog Hz 60 f267 [.sl 0 0 0 1 16 16 ex wh,.int .i64 3,.int .i64 4,.int .i64 9,.int .i64 14] [.b [.ints .u32 16 (cG 16 x)]]).map (λr=>(r.1,r.2.1.take 1,r.2.2))=
  some (.bC [],[.b [.ints .u32 16 (vk (cG 16 x) (3,4,9,14))]],true):=by kernel_rfl
end
end Go.Proofs.YthlnlcijnoadcaaGreatDoor.R3
end
section
namespace Go.Proofs.YthlnlcijnoadcaaGreatDoor.R3
open Go Go.Sy Sh
theorem Ba {x:List Int} {a b c d:Int} {ex wh:Bool} (hx:x.length=16) (h:Q9 a b c d=true):
  ai prog 267 [.sl 0 0 0 1 16 16 ex wh,.int .i64 a,.int .i64 b,.int .i64 c,.int .i64 d] [.b [.ints .u32 16 x]] (.bC []) [.b [.ints .u32 16 (vk x (a.toNat,b.toNat,c.toNat,d.toNat))]]:=by
 have e:cG 16 x=x:=bN hx
 unfold Q9 at h
 rw [aaT] at h
 obtain ⟨q,hq,h⟩:=h
 simp only [aac,aab] at h
 obtain ⟨⟨⟨h1,h2⟩,h3⟩,h4⟩:=h
 simp only [Cc.qRd,ad2,List.not_mem_nil,or_false] at hq
 rcases hq with rfl|rfl|rfl|rfl|rfl|rfl|rfl|rfl
 ·obtain rfl:a=0:=h1
  obtain rfl:b=4:=h2
  obtain rfl:c=8:=h3
  obtain rfl:d=12:=h4
  have k:=adF x ex wh
  rw [e] at k
  exact lK jP 60 func267 1 (by simp) k rfl rfl rfl
 ·obtain rfl:a=1:=h1
  obtain rfl:b=5:=h2
  obtain rfl:c=9:=h3
  obtain rfl:d=13:=h4
  have k:=adG x ex wh
  rw [e] at k
  exact lK jP 60 func267 1 (by simp) k rfl rfl rfl
 ·obtain rfl:a=2:=h1
  obtain rfl:b=6:=h2
  obtain rfl:c=10:=h3
  obtain rfl:d=14:=h4
  have k:=adH x ex wh
  rw [e] at k
  exact lK jP 60 func267 1 (by simp) k rfl rfl rfl
 ·obtain rfl:a=3:=h1
  obtain rfl:b=7:=h2
  obtain rfl:c=11:=h3
  obtain rfl:d=15:=h4
  have k:=adI x ex wh
  rw [e] at k
  exact lK jP 60 func267 1 (by simp) k rfl rfl rfl
 ·obtain rfl:a=0:=h1
  obtain rfl:b=5:=h2
  obtain rfl:c=10:=h3
  obtain rfl:d=15:=h4
  have k:=adJ x ex wh
  rw [e] at k
  exact lK jP 60 func267 1 (by simp) k rfl rfl rfl
 ·obtain rfl:a=1:=h1
  obtain rfl:b=6:=h2
  obtain rfl:c=11:=h3
  obtain rfl:d=12:=h4
  have k:=adK x ex wh
  rw [e] at k
  exact lK jP 60 func267 1 (by simp) k rfl rfl rfl
 ·obtain rfl:a=2:=h1
  obtain rfl:b=7:=h2
  obtain rfl:c=8:=h3
  obtain rfl:d=13:=h4
  have k:=adL x ex wh
  rw [e] at k
  exact lK jP 60 func267 1 (by simp) k rfl rfl rfl
 ·obtain rfl:a=3:=h1
  obtain rfl:b=4:=h2
  obtain rfl:c=9:=h3
  obtain rfl:d=14:=h4
  have k:=adM x ex wh
  rw [e] at k
  exact lK jP 60 func267 1 (by simp) k rfl rfl rfl
def XU (vs:List SV) (_:List Blk):List Nat:=match vs with
 | .sl b _ _ _ _ _ _ _::_=>[b]
 |_=>[]
def XQ:List SV->List Blk->Option (SV×List Blk×Bool)
 | [.sl 0 0 0 1 16 16 _ _,.int .i64 a,.int .i64 b,.int .i64 c,.int .i64 d],[.b [.ints .u32 16 x]]=>some (.bC [],[.b [.ints .u32 16 (vk x (a.toNat,b.toNat,c.toNat,d.toNat))]],decide (x.length=16)&&Q9 a b c d)
 |_,_=>none
def quE:Entry prog:=.mut 267 _ func267 (by decide) rfl XU 0 XQ λvs h0 v h1 e=>by
 unfold XQ at e
 split at e
 ·simp only [No,aae,aac,aab] at e
  obtain ⟨rfl,rfl,h1,h2⟩:=e
  exact Ba h1 h2
 ·cases e
section
variable (m:Nat) (l xs:List Int) (i:Int)
end
end Go.Proofs.YthlnlcijnoadcaaGreatDoor.R3
end
section
namespace Go.Proofs.YthlnlcijnoadcaaGreatDoor.R3
open Go Go.Sy Sh
theorem LF (n:Int):V n=n%4294967296:=S2.wrap_u32 n
theorem HC (i:Nat) (x y:Int) (hx0:0<=x) (hx:x%2^i=0) (hx1:x<4294967296) (hy0:0<=y) (hy:y<2^i) (hi:i<=32):Dc .u32 x y=x+y:=by
 have e:(2:Int)^32=4294967296:=by decide
 have h2:(2:Int)^i<=2^32:=by exact_mod_cast Nat.pow_le_pow_right (by decide) hi
 exact bits_join .u32 32 (by decide) wraps_u32 i x y hx0 hx (by rw [e];exact hx1) hy0 hy (by omega)
theorem zu (a:Int) (n:Nat) (hn:n<=32):jS .u32 a n=a*2^n%4294967296:=by
 unfold jS
 rw [show min n IntKind.u32.bits=n from ab6 hn,S2.wrap_u32]
theorem XV (a:Int) (n:Nat) (hn:n<=32):e6 .u32 a n=a/2^n:=Fe.Hw _ _ _ hn
def oz (x:Int):Prop:=0<=x/\x<4294967296
theorem Ei (n:Int):oz (V n):=by
 rw [LF]
 exact ⟨Int.emod_nonneg _ (by decide),Int.emod_lt_of_pos _ (by decide)⟩
theorem HD {x:Int} (hx:oz x) (n m:Nat) (h:n+m=32):Dc .u32 (jS .u32 x m) (e6 .u32 x n)=V (jS .u32 x m+e6 .u32 x n):=by
 rw [XV _ _ (show n<=32 by omega),zu _ _ (by omega)]
 have hp:(2:Int)^n*2^m=4294967296:=by rw [<-Int.pow_add,h];decide
 have hn:(0:Int)<2^n:=Int.pow_pos (by decide)
 have hm:(0:Int)<2^m:=Int.pow_pos (by decide)
 have e1:x*2^m%4294967296=(x%2^n)*2^m:=by rw [<-hp,Int.mul_comm x,Int.mul_comm (2^n) (2^m),Int.mul_emod_mul_of_pos _ _ hm,Int.mul_comm]
 have h1:=Int.emod_lt_of_pos x hn
 have h0:=Int.emod_nonneg x (Int.ne_of_gt hn)
 have h2:x/2^n<2^m:=Int.ediv_lt_of_lt_mul hn (by rw [Int.mul_comm,hp];exact hx.2)
 have h3:0<=x/2^n:=Int.ediv_nonneg hx.1 (Int.le_of_lt hn)
 have h4:(x%2^n+1)*2^m<=2^n*2^m:=Int.mul_le_mul_of_nonneg_right (by omega) (Int.le_of_lt hm)
 rw [hp,Int.add_mul] at h4
 have h5:0<=(x%2^n)*2^m:=Int.mul_nonneg h0 (Int.le_of_lt hm)
 rw [e1,HC m _ _ h5 (Int.mul_emod_left _ _) (by omega) h3 h2 (by omega),LF,Int.emod_eq_of_lt (a:=x%2^n*2^m+x/2^n) (b:=4294967296) (by omega) (by omega)]
end Go.Proofs.YthlnlcijnoadcaaGreatDoor.R3
end
