/- This file says the short digest, tags and Poly1305 once more as plain functions, for the kernel to reckon. No conditions. -/
import Derived.Test.YtibfpjeeanppjaaGreatUKdD
import Derived.Test.YtibfpjeeanppjaaGreatUAeF
set_option linter.all false
namespace Go.Proofs.YtibfpjeeanppjaaGreat.S2
open Go Go.Sy Sh
noncomputable def BD (s p k:List Int):List Int:=xm s (dG s k (sched (Dr p) 48) 64)
theorem FI:eZ=BD:=by funext s p k;rw [eZ,aq];rfl
noncomputable def stX (p kk s:List Int):Nat→List Int
 |0=>s
 |j+1=>BD (stX p kk s j) ((p.drop (64*j)).take 64) kk
theorem HN (p kk s:List Int):∀j,gK p kk s j=stX p kk s j
 |0=>rfl
 |j+1=>by
  show eZ (gK p kk s j) ((p.drop (64*j)).take 64) kk=BD (stX p kk s j) ((p.drop (64*j)).take 64) kk
  rw [HN,FI]
noncomputable def xo (xs:List Int):List Int:=zm (stX (nP xs) gB pg ((nP xs).length/64))
theorem nh:bn=xo:=by funext xs;rw [bn,aq,HN];rfl
end Go.Proofs.YtibfpjeeanppjaaGreat.S2
namespace Go.Proofs.YtibfpjeeanppjaaGreat.Kd
open Go Go.Sy Sh
noncomputable def T0 (key:List Int) (w:Int):List Int:=NY (BE (if (key.length:Int)>64 then S2.xo key else key)) w
theorem NZ:ic=T0:=by funext key w;rw [ic,aq,YV,S2.nh];rfl
noncomputable def aem (key xs:List Int):List Int:=S2.xo (T0 key 92++S2.xo (T0 key 54++xs))
theorem xp:ej=aem:=by funext key xs;rw [ej,aq,NZ,S2.nh];rfl
end Go.Proofs.YtibfpjeeanppjaaGreat.Kd
namespace Go.Proofs.YtibfpjeeanppjaaGreat.Ae
open Go Go.Sy Sh
def aS (x y c:Int):Int:=Int.ofNat ((x.toNat+y.toNat+c.toNat)%Extern.MathBitsCarry.m64)
def aC (x y c:Int):Int:=Int.ofNat ((x.toNat+y.toNat+c.toNat)/Extern.MathBitsCarry.m64)
def mH (x y:Int):Int:=IntKind.u64.wrap (IntKind.u64.wrap (IntKind.u64.wrap (bh .u64 x 32*bh .u64 y 32)+bh .u64 (Fe.HO x y) 32)+
 bh .u64 (IntKind.u64.wrap (bR .u64 (Fe.HO x y) 4294967295+IntKind.u64.wrap (bR .u64 x 4294967295*bh .u64 y 32))) 32)
def mL (x y:Int):Int:=IntKind.u64.wrap (x*y)
theorem wk:Fe.b8=aS:=by funext x y c;rw [Fe.b8,aq];rfl
theorem wm:Fe.bG=aC:=by funext x y c;rw [Fe.bG,aq];rfl
theorem HP:Fe.eO=mH:=by funext x y;rw [Fe.eO,aq];rfl
theorem HQ:Fe.mulL=mL:=by funext x y;rw [Fe.mulL,aq];rfl
def N0 (x y:Int) (m:List Int):List Int:=[g m 0,aS (g m 1) (mL x y) 0,aS (g m 2) (mH x y) (aC (g m 1) (mL x y) 0),W (g m 3+aC (g m 2) (mH x y) (aC (g m 1) (mL x y) 0))]
def N1 (x y:Int) (m:List Int):List Int:=[g m 0,g m 1,aS (g m 2) (mL x y) 0,aS (g m 3) (mH x y) (aC (g m 2) (mL x y) 0)]
theorem N2:NK=N0:=by funext x y m;unfold NK N0;rw [wk,wm,HP,HQ]
theorem N3:NL=N1:=by funext x y m;unfold NL N1;rw [wk,wm,HP,HQ]
def aen (h:List Int) (r s:Int):List Int:=N1 (g h 2) r (N1 (g h 1) s (N0 (g h 1) r (N0 (g h 0) s [mL (g h 0) r,mH (g h 0) r,0,0])))
def aeo (h:List Int) (r s:Int) (m:List Int):List Int:=[g m 0,g m 1,g m 2,W (g m 3+W (g h 2*s))]
def rdX (h:List Int) (x y:Int):List Int:=[aS (g h 0) x 0,aS (g h 1) y (aC (g h 0) x 0),W (g h 2+aC (g h 1) y (aC (g h 0) x 0))]
theorem T1:rd=rdX:=by funext h x y;unfold rd rdX;rw [wk,wm]
def aep (m:List Int):List Int:=rdX (rdX [g m 0,g m 1,bR .u64 (g m 2) 3] (fL .u64 (g m 2) 3) (g m 3)) (gj .u64 (bh .u64 (g m 2) 2) (cV .u64 (g m 3) 62)) (bh .u64 (g m 3) 2)
def HR (h:List Int) (r s:Int):List Int:=aep (aeo h r s (aen h r s))
theorem FJ:jR=HR:=by
 funext h r s
 rw [jR,aq]
 unfold RC vL sR TE ti2 ti1 TD
 rw [T1,N2,N3,HP,HQ]
 rfl
def YW (h p:List Int):List Int:=[aS (g h 0) (dh (bW p)) 0,aS (g h 1) (dh (bH p)) (aC (g h 0) (dh (bW p)) 0),W (g h 2+W (W ((bW p).getD 16 0)+aC (g h 1) (dh (bH p)) (aC (g h 0) (dh (bW p)) 0)))]
def HS (h p:List Int) (r s:Int):List Int:=HR (YW h p) r s
theorem HT:nO=HS:=by
 funext h p r s
 unfold nO zi
 rw [FJ,wk,wm]
 rfl
def hNX (p:List Int) (r s:Int):Nat→List Int
 |0=>[0,0,0]
 |j+1=>HS (hNX p r s j) ((p.drop (16*j)).take 16) r s
theorem HU (p:List Int) (r s:Int):∀j,hN p r s j=hNX p r s j
 |0=>rfl
 |j+1=>by
  show nO (hN p r s j) ((p.drop (16*j)).take 16) r s=HS (hNX p r s j) ((p.drop (16*j)).take 16) r s
  rw [HU,HT]
def YX (l:List Int):Int:=W (g l 2+aC (g l 1) 0 (aC (g l 0) 5 0))
def aeq (l:List Int):List Int:=[aS (g l 0) 5 0,aS (g l 1) 0 (aC (g l 0) 5 0),W (YX l-4)]
def T4 (l:List Int):List Int:=if YX l≥4 then aeq l else l
theorem N4:lX=T4:=by funext l;unfold lX RH G3;rw [wk,wm];rfl
def aer (l key:List Int):List Int:=dS (aS (g l 0) (dh (lR key)) 0)++dS (aS (g l 1) (dh (G4 key)) (aC (g l 0) (dh (lR key)) 0))
def YY (key xs:List Int):List Int:=aer (T4 (T4 (hNX xs (sw key) (sx key) ((xs.length+15)/16)))) key
theorem zn:gn=YY:=by
 funext key xs
 rw [gn,aq]
 unfold HA enW
 rw [HU,N4,wk,wm]
 rfl
def pcX (key af:List Int) (n:Int):List Int:=Cc.RR (Cc.y9 key af n) (Cc.gS (Cc.y9 key af n) 10)
theorem BF:Cc.eA=pcX:=by funext key af n;rw [Cc.eA,aq];rfl
end Go.Proofs.YtibfpjeeanppjaaGreat.Ae
namespace Go.Proofs.YtibfpjeeanppjaaGreat.Cp
open Go Go.Sy Sh
def HV:List Int:=List.replicate 12 0
theorem T5:Ae.di 0=HV:=by decide+kernel
end Go.Proofs.YtibfpjeeanppjaaGreat.Cp
