/- This file proves what a round of the law NoisePlays does. Conditions: keys of 32 bytes; bytes; stages that there are. -/
import Derived.Test.YtibfpjeeanppjaaGreatYNqI
import Derived.Test.YtibfpjeeanppjaaGreatYNoH
set_option linter.all false
set_option maxRecDepth 100000
namespace Go.Proofs.YtibfpjeeanppjaaGreat.No
open Go Go.Sy Sh La
noncomputable def DF:Code:=aE Tryz.f6
def opq (k:Nat→Int) (d t:Nat→List Int):Nat→List SV:=fun i=>[.int .i64 (k i),.ints .u8 32 (d i),.ro false .u8 (t i)]
noncomputable def afv:List (FuncId×Func):=[(36,Tryz.f36)]
theorem Ta:au Tryz.prog afv:=au.cons Tryz.func36 (by decide) au.nil
def plF (a b c:Bool):Nat→Option Bool:=fun i=>if i=66 then some a else if i=72 then some b else if i=78 then some c else if [115,121,128,136,143,150,166,171,177].contains i then some false else none
noncomputable def tg (w e d:Bool) (f:Nat→Option Bool):bu:=mk (P:=Tryz.prog) [bif w then AD else AB,bif w then Nq.AD else Nq.AB,bif e then E5 else E4,bif e then Nq.E5 else Nq.E4,Bn.UI,Bn.UK,Bn.acf,Nq.afw,afj,om,Nq.om,VJ,Nq.Zr d,Nq.NH d] afv f
theorem cg (w e d:Bool) (f:Nat→Option Bool):ag Tryz.prog (tg w e d f):=ah _ Ta _ _
structure Gm where
 key:List Int
 ch:List Int
 ha:List Int
 ms:List Int
 mp:List Int
 th:List Int
 n:Int
 ak:Int
 has:Bool
section
variable (own op peer aV:List Int) (bg:Bool) (k:Nat→Int) (dr t:Nat→List Int) (N:Nat)
noncomputable def gX:Blk:=.b [.bool bg,.ints .u8 32 own,.ints .u8 32 peer,.ro false .u8 aV]
noncomputable def gC:Blk:=.b [.ints .u8 (aV.length+2) (aV++[165,90])]
noncomputable def gH (g:Gm):Blk:=.b [.ints .u8 32 g.key,.bool g.has,.int .i64 g.n,.ints .u8 32 g.ch,.ints .u8 32 g.ha,.bool bg,.int .i64 g.ak,.ints .u8 32 own,.ints .u8 32 op,.ints .u8 32 peer,.ints .u8 32 g.ms,.ints .u8 32 g.mp,.ints .u8 32 g.th]
noncomputable def gM (g:Gm):Blk:=.b [.ints .u8 32 g.ch,.ints .u8 32 g.ha,.bool g.has,.ints .u8 32 g.key,.int .i64 g.n,.bool bg,.int .i64 g.ak,.ints .u8 32 own,.ints .u8 32 op,.ints .u8 32 peer,.ints .u8 32 g.ms,.ints .u8 32 g.th]
noncomputable def vj (g g':Gm) (i:Int):St:=⟨slotsOf 193 [(6,.ptr 2 0 0),(7,.ptr 3 0 0),(63,.oJ false 34 N (opq k dr t)),(64,.int .i64 N),(65,.int .i64 i)],[gX own peer aV bg,gC aV,gH own op peer bg g,gM own op peer bg g'],true⟩
end
noncomputable def ajO (own peer:List Int) (g:Gm) (e x:List Int):Gm:=
 ⟨eo (meets true g.ak own peer e g.th) g.ch,jc (meets true g.ak own peer e g.th) g.ch,qv g.ha (aJ e 9) (m7 (meets true g.ak own peer e g.th) g.ch g.ha (aJ e 9) x),e,aJ e 9,g.th,1,g.ak+1,true⟩
noncomputable def newR (own peer:List Int) (g:Gm) (x:List Int):Gm:=
 ⟨eo (lK g.ak own peer g.ms x) g.ch,jc (lK g.ak own peer g.ms x) g.ch,qv g.ha (x.take 32) (x.drop 32),g.ms,g.mp,x.take 32,1,g.ak+1,true⟩
noncomputable def N2 (x:List Int):List Int:=List.take x.length (List.drop 0 (x++[165,90]))
theorem AE (x:List Int):N2 x=x:=by unfold N2;rw [List.drop_zero,List.take_left]
noncomputable def obH (N:Nat) (i:Int) (x:List Int) (b:Bool):Bool:=
 aa (aa (aa (aa (aa (aa true (decide (i<(N:Int)))) (cL i N)) (true&&(decide (i.toNat<N)&&true))) (!decide ((x.length:Int)>3000))) (aa true (decide (x.length<270000000000)))) b
noncomputable def obZ (x:List Int) (b:Bool):Bool:=match b with
 |true=>aa true (aa true (aa (decide (0+x.length≤x.length+2)&&decide (0+x.length≤(x++[165,90]).length)) (decide ((N2 x).length=x.length))))
 |false=>aa true (aa (decide (0+x.length≤x.length+2)&&decide (0+x.length≤(x++[165,90]).length)) (decide ((N2 x).length=x.length)))
noncomputable def obM (X:Bool) (bg:Bool) (x h1 h2:List Int) (s:Int):Bool:=
 aa (aa (aa (aa (aa (aa (aa (aa (aa X (aa true (decide (x.length=x.length)&&decide (x.length+2=x.length+2)&&decide (x.length+2=x.length+2)&&decide (x++[165,90]=x++[165,90])&&decide (x.length<270000000000)&&bE x)))
  (!!decide (x++[165,90]=x++[165,90]))) (aa (decide (h1.length=32)) (decide (h2.length=32)))) (!!decide (h1=h2))) (aa true (cN s))) (aa true (cN s))) (!!(cr bg s==cr bg s))) (aa true (cN s))) (!!((s==2)==(s==2)))
noncomputable def obT (d:Bool) (X:Bool) (bg:Bool) (c1 c2:List Int) (s:Int):Bool:=match d with
 |false=>aa (aa X (aa true (cN s&&!(s==2)&&decide (c1.length=32)))) (aa true (cN s&&!(s==2)))
 |true=>aa (aa (aa (aa (aa (aa X (aa true ((s==2)&&decide (c1.length=32)))) (aa true ((s==2)&&decide (c2.length=32))))
   (aa (decide ((Nq.JU bg c1).length=32)) (decide ((Nq.JU bg c2).length=32)))) (!!decide (Nq.JU bg c1=Nq.JU bg c2)))
   (aa (decide ((Nq.JV bg c1).length=32)) (decide ((Nq.JV bg c2).length=32)))) (!!decide (Nq.JV bg c1=Nq.JV bg c2))
noncomputable def wC1 (own peer:List Int) (g:Gm) (e:List Int):Bool:=cN g.ak&&decide (g.ha.length=32)&&decide (g.ch.length=32)&&Re.aj e&&fA (meets true g.ak own peer e g.th)
noncomputable def wC2 (own peer:List Int) (g:Gm) (e:List Int):Bool:=cN g.ak&&decide (g.ha.length=32)&&bE g.ha&&decide (g.ch.length=32)&&Re.aj e&&fA (meets true g.ak own peer e g.th)
noncomputable def rC1 (own peer:List Int) (g:Gm) (x:List Int):Bool:=rdP g.ak own peer g.ms g.ch g.ha x
noncomputable def rC2 (own peer:List Int) (g:Gm) (x:List Int):Bool:=cN g.ak&&decide (g.ha.length=32)&&bE g.ha&&decide (g.ch.length=32)&&decide (g.th.length=32)&&Re.aj own&&Re.aj peer&&Re.aj g.ms&&bE x
noncomputable def wK (own peer:List Int) (bg:Bool) (g:Gm) (e x:List Int):Int:=yd bg g.ak x.length (meets true g.ak own peer e g.th)
noncomputable def rK (own peer:List Int) (bg:Bool) (g:Gm) (x:List Int):Int:=yP bg g.ak x.length (lK g.ak own peer g.ms x) (mX g.ak own peer g.ms g.ch g.ha x)
noncomputable def Ji (own peer:List Int) (g:Gm) (e x:List Int):List Int:=aJ e 9++m7 (meets true g.ak own peer e g.th) g.ch g.ha (aJ e 9) x
noncomputable def Jj (own peer:List Int) (g:Gm) (x:List Int):List Int:=Ae.cn (eo (lK g.ak own peer g.ms x) g.ch) (Ae.aI 0) (x.drop 32)
section
variable (own op peer aV:List Int) (bg:Bool) (k:Nat→Int) (dr t:Nat→List Int) (N:Nat) (g:Gm) (i:Int)
section
variable (w ok:Bool)
noncomputable def obX (x x' e:List Int) (kk:Int):Bool:=match w,ok with
 |true,true=>aa (aa (aa (aa (obH N i x (kk==0)) (aa (obZ x true) (wC1 own peer g e&&(wK own peer bg g e x'==0)))) (aa true (wC2 own peer g e&&(wK own peer bg g e x==0)))) (aa true (bE (Ji own peer g e x')&&bE (Ji own peer g e x)))) (!!decide (Ji own peer g e x'=Ji own peer g e x))
 |true,false=>aa (aa (aa (aa (obH N i x (kk==0)) (aa (obZ x true) (wC1 own peer g e&&(wK own peer bg g e x' != 0)))) (aa true (wC2 own peer g e&&(wK own peer bg g e x != 0)))) (aa true (decide (1≤wK own peer bg g e x')&&decide (wK own peer bg g e x'≤12)))) (!(wK own peer bg g e x' != wK own peer bg g e x))
 |false,true=>aa (aa (aa (aa (obH N i x (!(kk==0))) (aa (obZ x false) (rC1 own peer g x'&&(rK own peer bg g x'==0)))) (aa true (rC2 own peer g x&&(rK own peer bg g x==0)))) (aa true (bE (Jj own peer g x')&&bE (Jj own peer g x)))) (!!decide (Jj own peer g x'=Jj own peer g x))
 |false,false=>aa (aa (aa (aa (obH N i x (!(kk==0))) (aa (obZ x false) (rC1 own peer g x'&&(rK own peer bg g x' != 0)))) (aa true (rC2 own peer g x&&(rK own peer bg g x != 0)))) (aa true (decide (1≤rK own peer bg g x')&&decide (rK own peer bg g x'≤12)))) (!(rK own peer bg g x' != rK own peer bg g x))
noncomputable def gN (e x:List Int):Gm:=match w,ok with
 |true,true=>ajO own peer g e x
 |false,true=>newR own peer g x
 |_,false=>g
noncomputable def Bh (d:Bool):Prop:=(exec Tryz.prog (tg ok ok d (plF true false w)) 60 0 (inner (inner (aA 11 DF))) (vj own op peer aV bg k dr t N g g i)).bind (fun r=>(r.2.cut [6,7,63,64,65] 4).map fun q=>(r.1,q))=
 some (.normal,{vj own op peer aV bg k dr t N (gN own peer g w ok (dr i.toNat) (N2 (t i.toNat))) (gN own peer g w ok (dr i.toNat) (t i.toNat)) (IntKind.i64.wrap (i+1)) with
  ob:=obT d (obM (obX own peer bg N g i w ok (t i.toNat) (N2 (t i.toNat)) (dr i.toNat) (k i.toNat)) bg (t i.toNat) (gN own peer g w ok (dr i.toNat) (N2 (t i.toNat))).ha (gN own peer g w ok (dr i.toNat) (t i.toNat)).ha (gN own peer g w ok (dr i.toNat) (t i.toNat)).ak) bg (gN own peer g w ok (dr i.toNat) (N2 (t i.toNat))).ch (gN own peer g w ok (dr i.toNat) (t i.toNat)).ch (gN own peer g w ok (dr i.toNat) (t i.toNat)).ak})
end
theorem Tb:Bh own op peer aV bg k dr t N g i true true true:=by unfold Bh;kernel_rfl
theorem Tc:Bh own op peer aV bg k dr t N g i true true false:=by unfold Bh;kernel_rfl
theorem Td:Bh own op peer aV bg k dr t N g i true false true:=by unfold Bh;kernel_rfl
theorem Te:Bh own op peer aV bg k dr t N g i true false false:=by unfold Bh;kernel_rfl
theorem Tf:Bh own op peer aV bg k dr t N g i false true true:=by unfold Bh;kernel_rfl
theorem Tg:Bh own op peer aV bg k dr t N g i false true false:=by unfold Bh;kernel_rfl
theorem Th:Bh own op peer aV bg k dr t N g i false false true:=by unfold Bh;kernel_rfl
theorem Ti:Bh own op peer aV bg k dr t N g i false false false:=by unfold Bh;kernel_rfl
end
end Go.Proofs.YtibfpjeeanppjaaGreat.No
