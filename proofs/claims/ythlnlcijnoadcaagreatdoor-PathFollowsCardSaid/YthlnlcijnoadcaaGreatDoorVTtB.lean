/- This file proves lemmas for the last one. Conditions: those in them. -/
import Derived.Test.YthlnlcijnoadcaaGreatDoorVMg
noncomputable section
open Bool renaming true->Z,false->I
open Option renaming some->E,none->Y
open Decidable renaming decide->C
open List renaming length->A,getD->X,replicate->t9,range->t8
open Int renaming toNat->O
open Go.Proofs.Tryz
open Go.Proofs.Tryz renaming prog->Q
set_option linter.all false
set_option maxRecDepth 100000
open Go.IntKind (i64)
namespace Go.Proofs.YthlnlcijnoadcaaGreatDoor
namespace Re
open Sy Fe
def p7(l:pD):Bool:=ew l&&C (vR l<Pm)
def gP{l}:p7 l=Z↔ew l=Z/\vR l<Pm:=by simp[p7]
def PJ{l}(h:p7 l=Z):0<=vR l/\vR l<Pm:=⟨(fZ (gP.1 h).1).1,(gP.1 h).2⟩
def Ar{n}(a:0<=n)(h1:n<Pm):p7 (cJ n)=Z:=gP.2 ⟨cS n,by rw[lY a h1];exact h1⟩
def iU n:p7 (cJ (n%Pm))=Z:=Ar (Int.emod_nonneg _ (by have:=kg;omega)) (Int.emod_lt_of_pos _ kg)
def C7 n:vR (cJ (n%Pm))=n%Pm:=lY (Int.emod_nonneg _ (by have:=kg;omega)) (Int.emod_lt_of_pos _ kg)
def xU(a b:pD):pD:=(t8 16).map (λi=>iw (X a i 0+X b i 0))++t9 16 0
def PK{a b:pD}(d:ew a=Z)(c:ew b=Z) i(hi:i<32):gD (xU a b) i=if i<16 then gD a i+gD b i else 0:=by
 unfold gD xU
 rw[abQ]
 by_cases h:i<16
 ·have e:=(ec.1 d).2 i h
  have f:=(ec.1 c).2 i h
  rw[afy (by simpa using h),afr,ajq h,ae8 h]
  show iw (X a i 0+X b i 0)=_
  rw[iw,aM _ (by omega) (by omega)]
 ·rw[afE (by simp;omega),acB h,List.getElem?_replicate,ae8 (by simp;omega)];rfl
def aAz{f}(h:∀i,16<=i->i<32->f i=0):sB f 32=sB f 16:=by have:=iq f 16 16;rw[pO 16 (λi a=>h (16+i) (by omega) (by omega)),Int.mul_zero,Int.add_zero] at this;exact this
def PM{a b:pD}(f:ew a=Z)(d:ew b=Z):okS (xU a b)=Z/\sB (gD (xU a b)) 32=vR a+vR b:=by
 have g:=PK f d
 have e:sB (gD (xU a b)) 32=vR a+vR b:=by
  rw[aAz (λi o j=>by rw[g i j,acB (by omega)]),gH 16 λi c=>by rw[g i (by omega),ae8 c],DD]
  rfl
 refine⟨DJ.2 ⟨⟨by simp[xU],λi c=>?_⟩,?_⟩,e⟩
 ·rw[g i c]
  split
  ·rename_i h
   have k:=(ec.1 f).2 i h
   have l:=(ec.1 d).2 i h
   unfold gD
   omega
  ·omega
 ·have m:=fZ f
  have n:=fZ d
  rw[e]
  show vR a+vR b<(115792089237316195423570985008687907853269984665640564039457584007913129639936:Int)*115792089237316195423570985008687907853269984665640564039457584007913129639936
  omega
def VQ:aq Q (mk [jK] []):=au _ aN.nil _ _
def abZ{a b}(g:ew a=Z)(d:ew b=Z):ak Q 154 [.agg [.af .i64 16 a],.agg [.af .i64 16 b]] [] (.agg [.af .i64 16 (cJ ((vR a+vR b)%Pm))]) []:=by
 have⟨f,e⟩:=PM g d;have c:ak Q 154 [.agg [.af .i64 16 a],.agg [.af .i64 16 b]] [] (.agg [.af .i64 16 (VN (xU a b))]) []:=
  aP VQ 80 func154 (p:=aa Z (aa Z (okS (xU a b)))) (by kernel_rfl) (by rw[f];rfl) rfl
 rw[VN,e] at c;exact c
def F4:List SV->Option (SV×List Blk×Bool)
 | [.agg [.af .i64 16 a],.agg [.af .i64 16 b]]=>E (.agg [.af .i64 16 (cJ ((vR a+vR b)%Pm))],[],ew a&&ew b)
 |_=>Y
def EV:aK Q:=.val 154 _ func154 (by decide) rfl I 0 F4 λvs v new e=>by
 unfold F4 at e
 split at e
 ·simp only[Mf,aad,No] at e
  have⟨rfl,rfl,b,a⟩:=e
  exact abZ b a
 ·cases e
def Jn a b:HQ a b=cJ (vR a-vR b):=by rw[HQ,bD,pU]
def aj4:aq Q (mk [DF,DG,EV] []):=au _ aN.nil _ _
def ab0{a b}(h:ew a=Z)(e:ew b=Z)(d:vR b<=Pm):ak Q 155 [.agg [.af .i64 16 a],.agg [.af .i64 16 b]] [] (.agg [.af .i64 16 (cJ ((vR a-vR b)%Pm))]) []:=by
 have g:ew (HQ yG b)=Z:=by rw[Jn];exact cS _
 have r:=fZ e;have c:ak Q 155 [.agg [.af .i64 16 a],.agg [.af .i64 16 b]] [] (.agg [.af .i64 16 (cJ ((vR a+vR (HQ yG b))%Pm))]) []:=
  aP aj4 60 func155 (p:=aa (aa Z (aa Z (ew yG&&ew b&&C (vR b<=vR yG)))) (aa Z (ew a&&ew (HQ yG b)))) (by kernel_rfl)
   (by rw[e,h,g,Jk,DE,Me d];rfl) rfl
 have f:vR (HQ yG b)=Pm-vR b:=by rw[Jn,pU,DE];exact LK (by omega) (by rw[oA];omega)
 rw[f,show vR a+(Pm-vR b)=(vR a-vR b)-(-1)*Pm by omega,nT rfl] at c;exact c
def F5:List SV->Option (SV×List Blk×Bool)
 | [.agg [.af .i64 16 a],.agg [.af .i64 16 b]]=>E (.agg [.af .i64 16 (cJ ((vR a-vR b)%Pm))],[],ew a&&p7 b)
 |_=>Y
def T6:aK Q:=.val 155 _ func155 (by decide) rfl I 0 F5 λvs v new e=>by
 unfold F5 at e
 split at e
 ·simp only[Mf,aad,No] at e
  have⟨rfl,rfl,b,a⟩:=e
  have:=gP.1 a
  exact ab0 b this.1 (by omega)
 ·cases e
def muC(x:Bool):cu:=mk (P:=Q) [] [] λi=>if i=9 then E x else Y
def Jo x:aq Q (muC x):=au _ aN.nil _ _
def muH(a b L:pD):List Blk:=[.b [.af .i64 16 a],.b [.af .i64 16 b],.b [.af .i64 16 Q4],.b [.af .i64 32 L]]
def ZW(a b L:pD)(i:Int):St:=⟨ag 35 [(2,.r5 0),(3,.r5 1),(4,.r5 2),(5,.r5 3),(6,.t6 i)],muH a b L,Z⟩
def muB:Code:=aj (aj (aJ 3 (aI f156)))
def VS(a b:pD)(i:Int)(s:pD×Bool)(j:Nat):pD×Bool:=
 (s.1.set (0+O (iw (i+j))) (iw (X s.1 (0+O (iw (i+j))) 0+iw (X a (0+O i) 0*X b j 0))),
  aa (aa (aa (aa (aa (aa s.2 (bC (iw (i+j)) 32)) (C (0+O (iw (i+j))<32))) (bC i 16)) (C (0+O i<16))) (bC (iw (i+j)) 32)) (C (0+O (iw (i+j))<32)&&C (A s.1=32)))
def LV(a b:pD)(i:Int)(s:pD×Bool):pD×Bool:=[0,1,2,3,4,5,6,7,8,9,10,11,12,13,14,15].foldl (VS a b i) s
def aj5 a b L(i:Int):(exec Q (muC Z) 80 0 muB (ZW a b L i)).bind (λr=>(r.2.cut [2,3,4,5,6] 4).map λq=>(r.1,q))=
  E (.normal,⟨(ZW a b L (iw (i+1))).t,muH a b (LV a b i (L,aa Z (C (i<16)))).1,(LV a b i (L,aa Z (C (i<16)))).2⟩):=by kernel_rfl
def aj6 a b L(i:Int):(exec Q (muC I) 80 0 muB (ZW a b L i)).bind (λr=>(r.2.cut [2,3,4,5,6] 4).map λq=>(r.1,q))=
  E (.exit 0,⟨(ZW a b L i).t,muH a b L,aa Z (!C (i<16))⟩):=by kernel_rfl
def ab1 a b:(bh Q (muC Z) 60 0 3 (aH (aI f156)) ⟨aU f156.ntmps [.agg [.af .i64 16 a],.agg [.af .i64 16 b]],[],Z⟩).bind (St.cut [2,3,4,5,6] 4)=E (ZW a b (t9 32 0) 0):=by kernel_rfl
def muN(a b:pD)(i:Int)(s:pD×Bool):Nat->pD×Bool
 |0=>s
 |j+1=>VS a b i (muN a b i s j) j
def DK a b(i:Int)(s:pD×Bool):LV a b i s=muN a b i s 16:=rfl
def yK{a b L o}{i:Nat}(hi:i<16)(f:A L=32)(h:o=Z):∀j,j<=16->
  (muN a b i (L,o) j).1.length=32/\(muN a b i (L,o) j).2=Z/\∀k,gD (muN a b i (L,o) j).1 k=if i<=k/\k<i+j then iw (gD L k+iw (gD a i*gD b (k-i))) else gD L k
 |0,_=>⟨f,h,λk=>by rw[acB (by omega)];rfl⟩
 |j+1,q=>by
  obtain⟨e,n,c⟩:=yK hi f h j (by omega)
  have e1:iw ((i:Int)+(j:Int))=((i+j:Nat):Int):=by rw[iw,aM _ (by omega) (by omega)];omega
  have e2:0+O (((i+j:Nat):Int))=i+j:=by omega
  have p:0+O ((i:Int))=i:=by omega
  rw[muN]
  generalize muN a b i (L,o) j=s at*
  unfold VS
  rw[e1,e2,p]
  refine⟨by rw[ajT];exact e,?_,λk=>?_⟩
  ·have m:bC ((i+j:Nat):Int) 32=Z:=by unfold bC;rw[Me (by omega),Me (by omega)];rfl
   have l:bC (i:Int) 16=Z:=by unfold bC;rw[Me (by omega),Me (by omega)];rfl
   rw[n,m,l,e,Me (show i+j<32 by omega),Me hi];rfl
  ·show(s.1.set (i+j) _).getD k 0=_
   rw[abQ]
   by_cases g:i+j=k
   ·subst g
    rw[acg (by omega),ae8 (by omega)]
    have:=c (i+j)
    rw[acB (by omega)] at this
    show iw (gD s.1 (i+j)+iw (gD a i*gD b j))=_
    rw[this,show i+j-i=j by omega]
   ·rw[abI g, <-abQ]
    show gD s.1 k=_
    rw[c k]
    by_cases d:i<=k/\k<i+j
    ·rw[ae8 d,ae8 (by omega)]
    ·rw[acB d,acB (by omega)]
def mR(a b:pD):Nat->pD
 |0=>t9 32 0
 |i+1=>(LV a b i (mR a b i,Z)).1
def DL a b:∀i,i<=16->A (mR a b i)=32
 |0,_=>by simp[mR]
 |i+1,h=>by rw[mR,DK];exact(yK (by omega) (DL a b i (by omega)) rfl 16 (aar _)).1
def vM n k:gD (t9 n 0) k=0:=by unfold gD;rw[abQ,List.getElem?_replicate];split<;>rfl
def VT{a b}(v:ew a=Z)(s:ew b=Z):∀i,i<=16->(∀k,0<=gD (mR a b i) k/\gD (mR a b i) k<=4294836225*i)/\
  (i<16->∀k,gD (mR a b (i+1)) k=gD (mR a b i) k+if i<=k/\k<i+16 then gD a i*gD b (k-i) else 0):=by
 have c:∀i j,i<16->j<16->0<=gD a i*gD b j/\gD a i*gD b j<=65535*65535:=λi j f e=>by
  have p:=(ec.1 v).2 i f
  have t:=(ec.1 s).2 j e
  exact jv p.1 (by unfold gD;omega) t.1 (by unfold gD;omega)
 have step:∀i,i<16->(∀k,0<=gD (mR a b i) k/\gD (mR a b i) k<=4294836225*i)->∀k,gD (mR a b (i+1)) k=gD (mR a b i) k+if i<=k/\k<i+16 then gD a i*gD b (k-i) else 0:=λi g d k=>by
  have:=(yK (a:=a) (b:=b) g (DL a b i (by omega)) rfl 16 (aar _)).2.2 k
  rw[mR,DK,this]
  split
  ·rename_i h
   have q:=c i (k-i) g (by omega)
   have r:=d k
   rw[iw,iw,aM (gD a i*_) (by omega) (by omega),aM _ (by omega) (by omega)]
  ·omega
 intro i
 induction i with
 |zero=>
  intro _
  have n:∀k,0<=gD (mR a b 0) k/\gD (mR a b 0) k<=4294836225*(0:Int):=λk=>by rw[mR,vM];omega
  exact⟨n,λh=>step 0 h n⟩
 |succ i u=>
  intro h
  have⟨f,e⟩:=u (by omega)
  have l:∀k,0<=gD (mR a b (i+1)) k/\gD (mR a b (i+1)) k<=4294836225*(i+1:Int):=λk=>by
   rw[e (by omega) k]
   have r:=f k
   split
   ·have q:=c i (k-i) (by omega) (by omega)
    omega
   ·omega
  exact⟨l,λh=>step (i+1) h l⟩
def aj8(c:Int) g i(hi:i<=16):sB (λk=>if i<=k/\k<i+16 then c*g (k-i) else 0) 32=65536^i*(c*sB g 16):=by have h:=iq (λk=>if i<=k/\k<i+16 then c*g (k-i) else 0) i (32-i);rw[show i+(32-i)=32 by omega] at h;rw[h,pO i (λk d=>acB (by omega)),Int.zero_add];congr 1;have a:=iq (λt=>if i<=i+t/\i+t<i+16 then c*g (i+t-i) else 0) 16 (16-i);rw[show 16+(16-i)=32-i by omega] at a;rw[a,pO (16-i) (λt b=>acB (by omega)),Int.mul_zero,Int.add_zero, <-Jj];refine gH 16 λt b=>?_;show(if i<=i+t/\i+t<i+16 then c*g (i+t-i) else 0)=c*g t;rw[ae8 (by omega),show i+t-i=t by omega]
def VU{a b}(d:ew a=Z)(c:ew b=Z):∀i,i<=16->sB (gD (mR a b i)) 32=sB (gD a) i*vR b
 |0,_=>by rw[pO 32 λk _=>by rw[mR,vM]];simp[sB]
 |i+1,h=>by rw[gH 32 λk _=>(VT d c i (by omega)).2 (by omega) k,DD,VU d c i (by omega),aj8 _ _ i (by omega)];show sB (gD a) i*vR b+65536^i*(gD a i*vR b)=(sB (gD a) i+gD a i*65536^i)*vR b;rw[Int.add_mul, <-Int.mul_assoc,Int.mul_comm (65536^i)]
def asL{a b}(d:ew a=Z)(c:ew b=Z):okS (mR a b 16)=Z/\sB (gD (mR a b 16)) 32=vR a*vR b:=by
 have e:=VU d c 16 (aar _)
 have f:sB (gD (mR a b 16)) 32=vR a*vR b:=e
 refine⟨DJ.2 ⟨⟨DL a b 16 (aar _),λi j=>?_⟩,?_⟩,f⟩
 ·have:=(VT d c 16 (aar _)).1 i
  omega
 ·rw[f]
  have g:=fZ d
  have h:=fZ c
  have hB:fE=115792089237316195423570985008687907853269984665640564039457584007913129639936:=rfl
  have:=jv g.1 (show vR a<=fE-1 by rw[hB];omega) h.1 (show vR b<=fE-1 by rw[hB];omega)
  have k:(fE-1)*(fE-1)<fE*fE:=by decide
  omega
def ab2{a b}(ha:ew a=Z)(g:ew b=Z):ak Q 156 [.agg [.af .i64 16 a],.agg [.af .i64 16 b]] [] (.agg [.af .i64 16 (cJ (vR a*vR b%Pm))]) []:=by
 have⟨i,m⟩:=asL ha g
 have f:Tr Q Y 0 (aJ 3 (aI f156)) (ZW a b (t9 32 0) 0) .normal (ZW a b (mR a b 16) 16):=by
  have d:=Tr.loop (P:=Q) (ro:=Y) (k:=0) 0 (c:=aJ 3 (aI f156)) rfl (λj:Nat=>ZW a b (mR a b j) j) 16 (s':=ZW a b (mR a b 16) 16) (λj l=>?_) ?_
  ·exact d
  ·have k:=aj5 a b (mR a b j) j
   have e1:iw ((j:Int)+1)=((j+1:Nat):Int):=by rw[iw,aM _ (by omega) (by omega)];omega
   have e2:aa Z (C ((j:Int)<16))=Z:=by rw[Me (by omega)];rfl
   rw[e1,e2] at k
   refine Tr.post (Tr.cut (Jo Z) 80 _ 4 (by omega) k ?_) (bG.bR rfl rfl)
   rw[DK]
   exact(yK l (DL a b j (by omega)) rfl 16 (aar _)).2.1
  ·have k:=aj6 a b (mR a b 16) 16
   exact Tr.post (Tr.cut (Jo I) 80 _ 4 (by omega) k rfl) (bG.bR rfl rfl)
 have d:ak Q 156 [.agg [.af .i64 16 a],.agg [.af .i64 16 b]] [] (.agg [.af .i64 16 (VN (mR a b 16))]) []:=by
  refine ak.iH VQ 60 4 0 func156 (by simp) rfl (λs' x h=>?_) (s:=ZW a b (mR a b 16) 16) (p:=aa Z (aa Z (okS (mR a b 16)))) (by kernel_rfl) (by rw[i];rfl) rfl rfl
  refine TrL.dM (Jo Z) 60 3 _ 4 (by simp) (ab1 a b) rfl (by decide) ?_
  exact TrL.dV 3 (by decide) f h
 rw[VN,m] at d
 exact d
def F6:List SV->Option (SV×List Blk×Bool)
 | [.agg [.af .i64 16 a],.agg [.af .i64 16 b]]=>E (.agg [.af .i64 16 (cJ (vR a*vR b%Pm))],[],ew a&&ew b)
 |_=>Y
def wE:aK Q:=.val 156 _ func156 (by decide) rfl I 0 F6 λvs v new e=>by
 unfold F6 at e
 split at e
 ·simp only[Mf,aad,No] at e
  have⟨rfl,rfl,b,a⟩:=e
  exact ab2 b a
 ·cases e
abbrev uw(n:Int):Int:=IntKind.u8.wrap n
def fh(l:pD):Bool:=C (A l=32)&&l.all u8
def j9{l}:fh l=Z↔A l=32/\l.all u8=Z:=by simp[fh]
def byL(a:pD):pD:=(t8 32).map λk=>if k%2=0 then uw ((X a (k/2) 0).tmod 256) else uw (iw ((X a (k/2) 0).tdiv 256))
def ab3{a}(d:ew a=Z):byL a=pM 32 (vR a):=by
 unfold byL
 rw[<-BX]
 apply aiw
 intro k e
 rw[aaI] at e
 have b:=(ec.1 d).2 (k/2) (by omega)
 have f:X a (k/2) 0=vR a/65536^(k/2)%65536:=vK 16 (k/2) (by omega) (ec.1 d).2
 rw[afS b.1,af6 b.1,iw,aM _ (by omega) (by omega),uw,uw,nD,nD,f]
 by_cases c:k%2=0
 ·rw[ae8 c,show(256:Int)^k=65536^(k/2) by rw[show(65536:Int)=256^2 from rfl, <-Int.pow_mul];congr 1;omega]
  generalize vR a/65536^(k/2)=Y
  omega
 ·rw[acB c,show(256:Int)^k=65536^(k/2)*256 by rw[show(65536:Int)=256^2 from rfl, <-Int.pow_mul, <-Int.pow_succ];congr 1;omega, <-ajn (Int.pow_nonneg (by omega))]
  generalize vR a/65536^(k/2)=Y
  omega
def PO{a}(b:ew a=Z):ak Q 157 [.agg [.af .i64 16 a]] [] (.agg [.t5 (lQ (pM 32 (vR a)))]) []:=by rw[bD, <-ab3 b];exact aP VQ 80 func157 (by kernel_rfl) rfl rfl
def vN:List SV->Option (SV×List Blk×Bool)
 | [.agg [.af .i64 16 a]]=>E (.agg [.t5 (lQ (pM 32 (vR a)))],[],ew a)
 |_=>Y
def Jp:aK Q:=.val 157 _ func157 (by decide) rfl I 0 vN λvs v new e=>by
 unfold vN at e
 split at e
 ·simp only[Mf,aad] at e
  have⟨rfl,rfl,a⟩:=e
  exact PO a
 ·cases e
def poC(x y:Bool):cu:=mk [wE] [] λi=>if i=9 then E x else if i=24 then E y else Y
def As x y:aq Q (poC x y):=au _ aN.nil _ _
def poB:Code:=aj (aj (aJ 3 (aI f199)))
def poH(a e o:pD):List Blk:=[.b [.af .i64 16 a],.b [.af .i64 16 e],.b [.af .i64 16 Q4],.b [.af .i64 16 o]]
def LW(a e o:pD)(i:Int):St:=⟨ag 29 [(2,.r5 0),(3,.r5 1),(4,.r5 2),(5,.r5 3),(6,.t6 i)],poH a e o,Z⟩
def F7(e:pD)(i:Int):Int:=(eF .i64 (X e (0+O (iw (i.tdiv 16))) 0) (O (IntKind.u64.wrap (i.tmod 16)))).tmod 2
def poO(o:pD)(i:Int):Bool:=aa (aa (aa (aa (aa Z (C (i>=0))) (aa Z (ew o&&ew o))) (bC (iw (i.tdiv 16)) 16)) (C (0+O (iw (i.tdiv 16))<16))) (C (0<=IntKind.u64.wrap (i.tmod 16)))
def sqR(o:pD):pD:=cJ (vR o*vR o%Pm)
section
variable (a e o:pD) (i:Int)
def aj9:(exec Q (poC Z Z) 60 0 poB (LW a e o i)).bind (λr=>(r.2.cut [2,3,4,5,6] 4).map λq=>(r.1,q))=
  E (.normal,⟨(LW a e o (iw (i-1))).t,poH a e (cJ (vR (sqR o)*vR a%Pm)),aa (aa (poO o i) (F7 e i==1)) (aa Z (ew (sqR o)&&ew a))⟩):=by kernel_rfl
def ab4:(exec Q (poC Z I) 60 0 poB (LW a e o i)).bind (λr=>(r.2.cut [2,3,4,5,6] 4).map λq=>(r.1,q))=
  E (.normal,⟨(LW a e o (iw (i-1))).t,poH a e (sqR o),aa (poO o i) (!(F7 e i==1))⟩):=by kernel_rfl
def aka:(exec Q (poC I I) 60 0 poB (LW a e o i)).bind (λr=>(r.2.cut [2,3,4,5,6] 4).map λq=>(r.1,q))=
  E (.exit 0,⟨(LW a e o i).t,poH a e o,aa Z (!C (i>=0))⟩):=by kernel_rfl
def s9:pD:=1::t9 15 0
def ab5:(bh Q (poC Z Z) 60 0 3 (aH (aI f199)) ⟨aU f199.ntmps [.agg [.af .i64 16 a],.agg [.af .i64 16 e]],[],Z⟩).bind (St.cut [2,3,4,5,6] 4)=E (LW a e s9 255):=by kernel_rfl
end
def PS{e}(g:ew e=Z){i:Nat}(h1:i<256):F7 e i=vR e/2^i%2:=by
 have e1:(i:Int).tdiv 16=((i/16:Nat):Int):=by rw[af6 (by omega)];omega
 have e2:(i:Int).tmod 16=((i%16:Nat):Int):=by rw[afS (by omega)];omega
 have b:iw ((i/16:Nat):Int)=((i/16:Nat):Int):=aM _ (by omega) (by omega)
 have j:IntKind.u64.wrap ((i%16:Nat):Int)=((i%16:Nat):Int):=by rw[cL];omega
 have f:X e (i/16) 0=vR e/65536^(i/16)%65536:=vK 16 (i/16) (by omega) (ec.1 g).2
 unfold F7
 rw[e1,e2,b,j,aaq,aaq,af8,f,mw _ _ _ (by show i%16<=64;omega)]
 have c:vR e/65536^(i/16)/2^(i%16)=vR e/2^i:=by
  rw[ajn (Int.pow_nonneg (by omega)),show(65536:Int)=2^16 from rfl, <-Int.pow_mul, <-Int.pow_add]
  congr 2
  omega
 rw[<-c]
 generalize vR e/65536^(i/16)=Y
 have d:i%16=0\/i%16=1\/i%16=2\/i%16=3\/i%16=4\/i%16=5\/i%16=6\/i%16=7\/i%16=8\/i%16=9\/i%16=10\/i%16=11\/i%16=12\/i%16=13\/i%16=14\/i%16=15:=by omega
 rcases d with h|h|h|h|h|h|h|h|h|h|h|h|h|h|h|h<;>rw[h]<;>simp only[Int.reducePow]<;>rw[afS (by omega)]<;>omega
def ab6{o}{i:Nat}(f:ew o=Z)(h1:i<256):poO o i=Z:=by
 have e1:(i:Int).tdiv 16=((i/16:Nat):Int):=by rw[af6 (by omega)];omega
 have e2:(i:Int).tmod 16=((i%16:Nat):Int):=by rw[afS (by omega)];omega
 have c:iw ((i/16:Nat):Int)=((i/16:Nat):Int):=aM _ (by omega) (by omega);have d:IntKind.u64.wrap ((i%16:Nat):Int)=((i%16:Nat):Int):=by rw[cL];omega
 have b:bC ((i/16:Nat):Int) 16=Z:=by unfold bC;rw[Me (by omega),Me (by omega)];rfl
 unfold poO;rw[e1,e2,c,d,f,b,Me (by omega),Me (by omega),Me (by omega)];rfl
def El(a e:pD)(j:Nat):pD:=cJ (xC (vR a) (O (vR e/2^(256-j))))
def oC(x:Int)(n:Nat):0<=xC x n/\xC x n<Pm:=⟨Int.emod_nonneg _ (by have:=kg;omega),Int.emod_lt_of_pos _ kg⟩
def akb a e(j:Nat):vR (El a e j)=xC (vR a) (O (vR e/2^(256-j))):=lY (oC _ _).1 (oC _ _).2
def LX(x:Int)(m n:Nat):xC x m*xC x n%Pm=xC x (m+n):=rq x m n
def ab7{x:Int}(b:0<=x)(h1:x<Pm):xC x 1=x:=by unfold xC;rw[Int.pow_one,ahG b h1]
def ab8{a e}(h:p7 a=Z)(l:ew e=Z){j}(t:j<256):Tr Q Y 0 poB (LW a e (El a e j) (255-j)) .normal (LW a e (El a e (j+1)) (255-((j+1:Nat):Int))):=by
 have d:(255:Int)-j=((255-j:Nat):Int):=by omega
 have n:iw (255-(j:Int)-1)=255-(j+1:Int):=by rw[iw,aM _ (by omega) (by omega)];omega
 have q:=ab6 (o:=El a e j) (i:=255-j) (cS _) (by omega)
 have m:=PS l (i:=255-j) (by omega)
 have r:=fZ l
 have p:=PJ h
 have g:vR e/2^(256-(j+1))=2*(vR e/2^(256-j))+vR e/2^(255-j)%2:=by
  have c:vR e/2^(256-j)=vR e/2^(255-j)/2:=by
   rw[ajn (Int.pow_nonneg (by omega)),show 256-j=(255-j)+1 by omega,Int.pow_succ]
  rw[c,show 256-(j+1)=255-j by omega]
  omega
 have s:0<=vR e/2^(256-j):=Int.ediv_nonneg r.1 (Int.pow_nonneg (by omega))
 have f:sqR (El a e j)=cJ (xC (vR a) (O (2*(vR e/2^(256-j))))):=by
  unfold sqR
  rw[akb,LX]
  congr 2
  omega
 cases b:(F7 e ((255-j:Nat):Int)==1) with
 |true=>
  have k:=aj9 a e (El a e j) (255-j)
  rw[n,d] at k
  rw[d]
  have c:vR e/2^(255-j)%2=1:=by rw[afP,m] at b;exact b
  refine Tr.post (Tr.cut (As Z Z) 60 _ 4 (by omega) k ?_) (bG.bR rfl ?_)
  ·rw[q,b,f,cS,(gP.1 h).1];rfl
  ·show poH _ _ _=poH _ _ _
   rw[f,lY (oC _ _).1 (oC _ _).2]
   conv=>lhs;arg 3;arg 1;arg 1;arg 2;rw[<-ab7 p.1 p.2]
   rw[LX,El,g,c,show(2*(vR e/2^(256-j))+1).toNat=O (2*(vR e/2^(256-j)))+1 by omega]
 |false=>
  have k:=ab4 a e (El a e j) (255-j)
  rw[n,d] at k
  rw[d]
  have c:vR e/2^(255-j)%2=0:=by rw[ahR,m] at b;omega
  refine Tr.post (Tr.cut (As Z I) 60 _ 4 (by omega) k ?_) (bG.bR rfl ?_)
  ·rw[q,b];rfl
  ·show poH _ _ _=poH _ _ _
   rw[f,El,g,c,Int.add_zero]
def ab9{a e}(ha:p7 a=Z)(f:ew e=Z):ak Q 199 [.agg [.af .i64 16 a],.agg [.af .i64 16 e]] [] (.agg [.af .i64 16 (cJ (xC (vR a) (O (vR e))))]) []:=by
 have h0:El a e 0=s9:=by have r:=fZ f;rw[El,Nat.sub_zero,show vR e/2^256=0 by rw[show(2:Int)^256=115792089237316195423570985008687907853269984665640564039457584007913129639936 by decide];omega,pU];rw[show xC (vR a) (Int.toNat 0)=1 by simp only[xC,Int.toNat_zero,Int.pow_zero];decide];decide
 have l:Tr Q Y 0 (aJ 3 (aI f199)) (LW a e s9 255) .normal (LW a e (El a e 256) (-1)):=by
  have d:=Tr.loop (P:=Q) (ro:=Y) (k:=0) 0 (c:=aJ 3 (aI f199)) rfl (λj:Nat=>LW a e (El a e j) (255-j)) 256 (s':=LW a e (El a e 256) (-1)) (λj hj=>?_) ?_
  ·rw[<-h0];exact d
  ·exact ab8 ha f hj
  ·have k:=aka a e (El a e 256) (-1)
   exact Tr.post (Tr.cut (As I I) 60 _ 4 (by omega) k rfl) (bG.bR rfl rfl)
 have b:cJ (xC (vR a) (O (vR e)))=El a e 256:=by rw[El,Nat.sub_self,Int.pow_zero,Int.ediv_one]
 rw[b]
 refine ak.iH (As Z Z) 60 4 0 func199 (by simp) rfl (λs' x h=>?_) (s:=LW a e (El a e 256) (-1)) (p:=Z) rfl rfl rfl rfl
 refine TrL.dM (As Z Z) 60 3 _ 4 (by simp) (ab5 a e) rfl (by decide) ?_
 exact TrL.dV 3 (by decide) l h
def F8:List SV->Option (SV×List Blk×Bool)
 | [.agg [.af .i64 16 a],.agg [.af .i64 16 e]]=>E (.agg [.af .i64 16 (cJ (xC (vR a) (O (vR e))))],[],p7 a&&ew e)
 |_=>Y
def ajQ:aK Q:=.val 199 _ func199 (by decide) rfl I 0 F8 λvs v new e=>by
 unfold F8 at e
 split at e
 ·simp only[Mf,aad,No] at e
  have⟨rfl,rfl,c,b⟩:=e
  exact ab9 c b
 ·cases e
def Ji:aq Q (mk [DF,DG,ajQ] []):=au _ aN.nil _ _
def At:pD:=2::t9 15 0
def asO:vR (HQ yG At)=Pm-2/\ew (HQ yG At)=Z:=by rw[Jn];refine⟨?_,cS _⟩;rw[show vR yG-vR At=Pm-2 by decide];exact lY (by decide) (by decide)
def acd{a}(c:p7 a=Z):ak Q 158 [.agg [.af .i64 16 a]] [] (.agg [.af .i64 16 (cJ (xC (vR a) (O (Pm-2))))]) []:=by
 have b:ak Q 158 [.agg [.af .i64 16 a]] [] (.agg [.af .i64 16 (cJ (xC (vR a) (O (vR (HQ yG At)))))]) []:=
  aP Ji 60 func158 (p:=aa (aa Z (aa Z (ew yG&&ew At&&C (vR At<=vR yG)))) (aa Z (p7 a&&ew (HQ yG At)))) (by kernel_rfl)
   (by rw[c,asO.2];decide) rfl
 rw[asO.1] at b;exact b
def FV:List SV->Option (SV×List Blk×Bool)
 | [.agg [.af .i64 16 a]]=>E (.agg [.af .i64 16 (cJ (xC (vR a) (O (Pm-2))))],[],p7 a)
 |_=>Y
def aiU:aK Q:=.val 158 _ func158 (by decide) rfl I 0 FV λvs v new e=>by
 unfold FV at e
 split at e
 ·simp only[Mf,aad] at e
  have⟨rfl,rfl,b⟩:=e
  exact acd b
 ·cases e
end Re
namespace La
structure tK(n:Nat):Prop where
 gt:1<n
 dv:∀m,m∣n->m=1\/m=n
def Uc{n}(h:1<n):∃r,1<r/\r∣n/\∀m,1<m->m∣n->r<=m:=by
 have e:∀k m,m<=k->1<m->m∣n->∃r,1<r/\r∣n/\∀m,1<m->m∣n->r<=m:=by
  intro k
  induction k with
  |zero=>intro m h1 h2;omega
  |succ k ih=>
   intro m h1 h2 h3
   by_cases f:∃m',m'<=k/\1<m'/\m'∣n
   ·have⟨m',a,b,c⟩:=f
    exact ih m' a b c
   ·refine⟨m,h2,h3,λm' h4 h5=>?_⟩
    by_cases hk:m'<=k
    ·exact absurd ⟨m',hk,h4,h5⟩ f
    ·omega
 exact e n n (aar _) h (Nat.dvd_refl _)
def tK.of{n}(h:1<n)(e:∀r,1<r->r∣n->r*r<=n->False):tK n:=by
 refine⟨h,λm b=>?_⟩
 by_cases d:m=1
 ·exact .inl d
 refine .inr ?_
 have⟨r,c,f,r3⟩:=Uc h
 have i:m≠0:=λq=>by subst q;have:=Nat.eq_zero_of_zero_dvd b;omega
 have⟨k,a⟩:=f
 by_cases g:k=1
 ·have:=r3 m (by omega) b
  have l:=Nat.le_of_dvd (by omega) b
  rw[g,ajC] at a
  omega
 ·have j:k≠0:=λq=>by rw[q,Nat.mul_zero] at a;omega
  have:=r3 k (by omega) ⟨r,by rw[a,Nat.mul_comm]⟩
  exact absurd (by have:=Nat.mul_le_mul_left r this;omega) (e r c ⟨k,a⟩)
def tdiv(n:Nat):Nat->Bool
 |0=>Z
 |k+1=>Nat.blt 0 (n%(k+2))&&tdiv n k
def KY{n}:∀k,tdiv n k=Z->∀r,1<r->r<=k+1->¬r∣n
 |0,_,r,b,e,_=>by omega
 |k+1,h,r,b,e,c=>by
  rw[tdiv,No] at h
  by_cases f:r=k+2
  ·subst f
   have d:=Nat.mod_eq_zero_of_dvd c
   have a:=h.1
   rw[d] at a
   cases a
  ·exact KY k h.2 r b (by omega) c
def tK.xB{n} k(h:(Nat.blt 1 n&&(Nat.blt n ((k+2)*(k+2))&&tdiv n k))=Z):tK n:=by
 rw[No,No] at h
 have⟨c,a,e⟩:=h
 have a:=aeN a
 refine tK.of (aeN c) λr b d r3=>?_
 by_cases f:r<=k+1
 ·exact KY k e r b f d
 ·have:=Nat.mul_le_mul (show k+2<=r by omega) (show k+2<=r by omega)
  omega
def C1{b r m}(h:b^m%r=1%r) k s:b^(m*k+s)%r=b^s%r:=by
 have a:(b^m)^k%r=1%r:=by
  rw[Nat.pow_mod,h, <-Nat.pow_mod,Nat.one_pow]
 rw[Nat.pow_add,Nat.pow_mul,Nat.mul_mod,a, <-Nat.mul_mod,Nat.one_mul]
def aba{b r}(m n:Nat):b^m%r=1%r->b^n%r=1%r->b^(Nat.gcd m n)%r=1%r:=by
 induction m,n using Nat.gcd.induction with
 |H0 n=>intro _ h;rw[Nat.gcd_zero_left];exact h
 |H1 m n _ d=>
  intro a c
  rw[Nat.gcd_rec]
  refine d ?_ a
  rw[<-C1 a (n/m) (n%m),Nat.div_add_mod]
  exact c
def Ud{b r F i j}(h:b^F%r=1%r)(d:i<j)(e:j<F)(c:b^i%r=b^j%r):b^(j-i)%r=1%r:=by
 have a:b^(i+(F-i))%r=b^(j+(F-i))%r:=by
  rw[Nat.pow_add,Nat.mul_mod,c, <-Nat.mul_mod, <-Nat.pow_add]
 rw[show i+(F-i)=F by omega,show j+(F-i)=F*1+(j-i) by omega,C1 h,h] at a
 exact a.symm
def iI:List Nat->Nat
 | []=>1
 |l::L=>l*iI L
def E3:∀L(_:∀l∈L,tK l)g,g∣iI L->g≠iI L->∃l,l∈L/\g*l∣iI L
 | [],_,g,h,b=>absurd (Nat.eq_one_of_dvd_one h) b
 |l::L,c,g,h,b=>by
  have e:=c l (List.mem_cons_self ..)
  rcases e.dv (Nat.gcd g l) (Nat.gcd_dvd_right g l) with h1|h1
  ·have:=Nat.Coprime.dvd_of_dvd_mul_left h1 h
   exact⟨l,List.mem_cons_self ..,by rw[iI,Nat.mul_comm g l];exact Nat.mul_dvd_mul_left l this⟩
  ·have a:=h1▸Nat.gcd_dvd_left g l
   obtain⟨d,rfl⟩:=a
   have f:0<l:=by have:=e.gt;omega
   have o:=Nat.dvd_of_mul_dvd_mul_left f h
   have⟨j,r,i⟩:=E3 L (λx p=>c x (List.mem_cons_of_mem _ p)) d o (λq=>b (by rw[q];rfl))
   exact⟨j,List.mem_cons_of_mem _ r,by rw[iI,Nat.mul_assoc];exact Nat.mul_dvd_mul_left l i⟩
def C2:∀r N(f:Nat->Nat),(∀i,i<N->f i<r)->(∀i j,i<j->j<N->f i≠f j)->N<=r
 |0,N,f,g,_=>by
  cases N with
  |zero=>omega
  |succ N=>have:=g 0 (by omega);omega
 |r+1,N,f,g,d=>by
  by_cases n:∃i,i<N/\f i=r
  ·have⟨k,k1,k2⟩:=n
   have:=C2 r (N-1) (λi=>if i=k then f (N-1) else f i) (λi l=>by
    show(if i=k then f (N-1) else f i)<r
    by_cases c:i=k
    ·rw[ae8 c]
     have a:=g (N-1) (by omega)
     have b:=d k (N-1) (by omega) (by omega)
     omega
    ·rw[acB c]
     have a:=g i (by omega)
     have b:f i≠r:=by
      rw[<-k2]
      by_cases m:i<k
      ·exact d i k m k1
      ·exact(d k i (by omega) (by omega)).symm
     omega) (λi j h hj=>by
    show(if i=k then f (N-1) else f i)≠(if j=k then f (N-1) else f j)
    by_cases c:i=k
    ·rw[ae8 c,acB (by omega)]
     exact(d j (N-1) (by omega) (by omega)).symm
    ·rw[acB c]
     by_cases e:j=k
     ·rw[ae8 e]
      exact d i (N-1) (by omega) (by omega)
     ·rw[acB e]
      exact d i j h (by omega))
   omega
  ·have:=C2 r N f (λi l=>by
    have a:=g i l
    have b:f i≠r:=λq=>n ⟨i,l,q⟩
    omega) d
   omega
def E4{r}(f:Nat->Nat)(k:0<r)(h1:∀i,i<r-1->0<f i/\f i<r)(h2:∀i j,i<j->j<r-1->f i≠f j){y}(y0:0<y)(h:y<r):∃i,i<r-1/\f i=y:=by
 refine Classical.byContradiction λhc=>?_
 have g:=λi e q=>hc ⟨i,e,q⟩
 have:=C2 r (r+1) (λi=>if i<r-1 then f i else if i=r-1 then 0 else y) (λi e=>by
  show(if i<r-1 then f i else if i=r-1 then 0 else y)<r
  by_cases a:i<r-1
  ·rw[ae8 a];exact(h1 i a).2
  ·rw[acB a]
   by_cases b:i=r-1
   ·rw[ae8 b];exact k
   ·rw[acB b];exact h) (λi j c l=>by
  show(if i<r-1 then f i else if i=r-1 then 0 else y)≠(if j<r-1 then f j else if j=r-1 then 0 else y)
  by_cases a:i<r-1
  ·rw[ae8 a]
   by_cases d:j<r-1
   ·rw[ae8 d];exact h2 i j c d
   ·rw[acB d]
    by_cases b:j=r-1
    ·rw[ae8 b];have:=(h1 i a).1;omega
    ·rw[acB b];exact g i a
  ·rw[acB a,acB (show¬j<r-1 by omega),acB (show¬j=r-1 by omega)]
   by_cases b:i=r-1
   ·rw[ae8 b];omega
   ·omega)
 omega
structure yd(n b:Nat)(L:List Nat):Prop where
 pr:∀l∈L,tK l
 one:b^iI L%n=1%n
 ne:∀l∈L,∃e,iI L=e*l/\Nat.gcd (b^e%n+n-1) n=1
def yd.E5{n b L}(h:yd n b L){r}(s:1<r)(a:r∣n)(z:0<n):∀i j,i<j->j<iI L->b^i%r≠b^j%r:=by
 intro i j c o v
 have f:b^iI L%r=1%r:=by rw[<-Nat.mod_mod_of_dvd (b^iI L) a,h.one,Nat.mod_mod_of_dvd 1 a]
 have x:=aba (j-i) (iI L) (Ud f c o v) f
 have⟨l,g,m⟩:=E3 L h.pr _ (Nat.gcd_dvd_right (j-i) (iI L)) (λq=>by
  have:=Nat.le_of_dvd (by omega) (q▸Nat.gcd_dvd_left (j-i) (iI L))
  omega)
 have⟨e,e1,e2⟩:=h.ne l g
 rw[e1] at m
 have p:0<l:=by have:=(h.pr l g).gt;omega
 have⟨k,d⟩:=Nat.dvd_of_mul_dvd_mul_right p m
 rw[<-e1] at d
 have y:b^e%r=1%r:=by
  have:=C1 x k 0
  rw[ajf, <-d,Nat.pow_zero] at this
  exact this
 have u:b^e%n%r=1:=by rw[Nat.mod_mod_of_dvd _ a,y,ah7 s]
 have t:r∣b^e%n+n-1:=by
  have w:=Nat.div_add_mod (b^e%n) r
  rw[u] at w
  rw[show b^e%n+n-1=r*(b^e%n/r)+n by omega]
  exact Nat.dvd_add (Nat.dvd_mul_right _ _) a
 have:=Nat.dvd_gcd t a
 rw[e2] at this
 have:=Nat.eq_one_of_dvd_one this
 omega
def yd.prime{n b L}(h:yd n b L)(c:1<n)(e:n<iI L*iI L):tK n:=by
 refine tK.of c λr a d r3=>?_
 have:=C2 r (iI L) (λi=>b^i%r) (λi _=>Nat.mod_lt _ (by omega)) (h.E5 a d (by omega))
 have:=Nat.mul_le_mul this this
 omega
def pgS(m x a:Nat)(b:Bool):Nat:=bif b then a*a%m*x%m else a*a%m
def pgL(m x n:Nat):Nat->Nat
 |0=>1%m
 |j+1=>pgS m x (pgL m x n j) (Nat.beq (n/2^(255-j)%2) 1)
def Ue m x n(d:n<2^256):∀j,j<=256->pgL m x n j=x^(n/2^(256-j))%m
 |0,_=>by
  rw[pgL,Nat.sub_zero,Nat.div_eq_of_lt d,Nat.pow_zero]
 |j+1,h=>by
  have g:=Ue m x n d j (by omega)
  have f:n/2^(256-(j+1))=2*(n/2^(256-j))+n/2^(255-j)%2:=by
   have e:n/2^(256-j)=n/2^(255-j)/2:=by
    rw[Nat.div_div_eq_div_mul,show 256-j=(255-j)+1 by omega,Nat.pow_succ]
   rw[e,show 256-(j+1)=255-j by omega]
   omega
  have c:x^(n/2^(256-j))%m*(x^(n/2^(256-j))%m)%m=x^(2*(n/2^(256-j)))%m:=by
   rw[<-Nat.mul_mod, <-Nat.pow_add];congr 2;omega
  rw[pgL,g,f]
  unfold pgS
  cases b:Nat.beq (n/2^(255-j)%2) 1 with
  |true=>
   have a:=acr b
   rw[a,aja,c,Nat.pow_succ,Nat.mod_mul_mod]
  |false=>
   have a:n/2^(255-j)%2=0:=by
    have:¬n/2^(255-j)%2=1:=λq=>by rw[q] at b;cases b
    omega
   rw[a,ajB,c,ajf]
def afT m x{n}(a:n<2^256):x^n%m=pgL m x n 256:=by
 rw[Ue m x n a 256 (aar _),Nat.sub_self,Nat.pow_zero,Nat.div_one]
def afU(n b F:Nat)(L:List Nat):Bool:=
 Nat.beq (iI L) F&&(Nat.blt F (2^256)&&(Nat.beq (pgL n b F 256) 1&&(Nat.blt 1 n&&
  L.all λl=>Nat.beq (F/l*l) F&&Nat.beq (Nat.gcd (pgL n b (F/l) 256+n-1) n) 1)))
def yd.mk'{n b F L}(h:afU n b F L=Z)(g:∀l∈L,tK l):yd n b L/\1<n/\iI L=F/\F<2^256:=by
 unfold afU at h
 rw[No,No,No,No] at h
 have⟨a,c,e,d,f⟩:=h
 have a:=acr a
 have c:=aeN c
 have e:=acr e
 have d:=aeN d
 refine⟨⟨g,?_,λl i=>?_⟩,d,a,c⟩
 ·rw[a,afT n b c,e,ah7 d]
 ·have:=aaB.1 f l i
  rw[No] at this
  refine⟨F/l,?_,?_⟩
  ·rw[a];exact(acr this.1).symm
  ·rw[afT n b (Nat.lt_of_le_of_lt (Nat.div_le_self F l) c)]
   exact acr this.2
end La
namespace La
open Sy Re Fe
def mm(a b:Int):Int:=a*b%Pm
def ma(a b:Int):Int:=(a+b)%Pm
def ms(a b:Int):Int:=(a-b)%Pm
def KZ(a:Int):Int:=xC a (O (Pm-2))
def iC(a:Int):0<=a%Pm/\a%Pm<Pm:=⟨Int.emod_nonneg _ (by have:=kg;omega),Int.emod_lt_of_pos _ kg⟩
def PN:Nat:=57896044618658097711785492504343953926634992332820282019728792003956564819949
def BF:(PN:Int)=Pm:=by decide
def pr2:tK 2:=tK.xB 0 (by decide)
def pr3:tK 3:=tK.xB 1 (by decide)
def arG:tK 127:=tK.xB 11 (by decide+kernel)
def aiX:tK 4153:=tK.xB 64 (by decide+kernel)
def abb:tK 65147:=tK.xB 255 (by decide+kernel)
def abc:tK 75707:=tK.xB 275 (by decide+kernel)
def Uf:tK 430751:=tK.xB 656 (by decide+kernel)
def OW:tK 8574133:=tK.xB 2928 (by decide+kernel)
def prU:tK 1919519569386763:=by
 have h:=yd.mk' (n:=1919519569386763) (b:=354538099852037) (F:=1088914891) (L:=[8574133,127]) (by decide+kernel) (by
  intro l a
  simp only[af7,ajy,or_false] at a
  rcases a with rfl|rfl
  ·exact OW
  ·exact arG)
 exact h.1.prime h.2.1 (by rw[h.2.2.1];decide)
def prT:tK 31757755568855353:=by
 have h:=yd.mk' (n:=31757755568855353) (b:=26222887164197666) (F:=1788908903) (L:=[430751,4153]) (by decide+kernel) (by
  intro l a
  simp only[af7,ajy,or_false] at a
  rcases a with rfl|rfl
  ·exact Uf
  ·exact aiX)
 exact h.1.prime h.2.1 (by rw[h.2.2.1];decide)
def Ug:tK 75445702479781427272750846543864801:=by
 have h:=yd.mk' (n:=75445702479781427272750846543864801) (b:=66628784550627212900504873757094751) (F:=145321068039563666441) (L:=[1919519569386763,75707]) (by decide+kernel) (by
  intro l a
  simp only[af7,ajy,or_false] at a
  rcases a with rfl|rfl
  ·exact prU
  ·exact abc)
 exact h.1.prime h.2.1 (by rw[h.2.2.1];decide)
def prQ:tK 74058212732561358302231226437062788676166966415465897661863160754340907:=by
 have h:=yd.mk' (n:=74058212732561358302231226437062788676166966415465897661863160754340907) (b:=32917242187670345156894797748588826076355976820526874250530785709567478) (F:=75445702479781427272750846543864801*31757755568855353) (L:=[75445702479781427272750846543864801,31757755568855353]) (by decide+kernel) (by
  intro l a
  simp only[af7,ajy,or_false] at a
  rcases a with rfl|rfl
  ·exact Ug
  ·exact prT)
 exact h.1.prime h.2.1 (by rw[h.2.2.1];decide)
def PF:Nat:=57896044618658097711785492504343953926634992332820282019728792003956564819948
def PL:List Nat:=[2,2,3,65147,74058212732561358302231226437062788676166966415465897661863160754340907]
def afV:PF+1=PN:=by decide
def sY:yd PN 2 PL/\1<PN/\iI PL=PF/\PF<2^256:=yd.mk' (by decide+kernel) (by
 intro l a
 simp only[PL,af7,ajy,or_false] at a
 rcases a with rfl|rfl|rfl|rfl|rfl
 ·exact pr2
 ·exact pr2
 ·exact pr3
 ·exact abb
 ·exact prQ)
def arH:PN<PF*PF:=by decide
def prP:tK PN:=sY.1.prime sY.2.1 (by rw[sY.2.2.1];exact arH)
def Uh:2^PF%PN=1:=by
 have:=sY.1.one
 rw[sY.2.2.1,ah7 sY.2.1] at this
 exact this
def abd{m}(f:0<m)(h1:m<PN):∃i,2^i%PN=m:=by
 have g:=sY.2.1
 have⟨i,_,h⟩:=E4 (λi=>2^i%PN) (by omega) (λi l=>by
  refine⟨?_,Nat.mod_lt _ (by omega)⟩
  show 0<2^i%PN
  rcases Nat.eq_zero_or_pos (2^i%PN) with hz|hz
  ·have e:=Uh
   have b:i<=PF:=by have:=afV;omega
   have⟨c,d⟩:=Nat.exists_eq_add_of_le b
   rw[d,Nat.pow_add,Nat.mul_mod,hz,Nat.zero_mul,Nat.zero_mod] at e
   cases e
  ·exact hz) (λi j a k=>by
  have:=sY.1.E5 g (Nat.dvd_refl _) (by omega) i j a (by rw[sY.2.2.1];have:=afV;omega)
  exact this) f h1
 exact⟨i,h⟩
def aiY{m}(a:0<m)(h1:m<PN):m^PF%PN=1:=by
 obtain⟨i,rfl⟩:=abd a h1
 rw[<-Nat.pow_mod, <-Nat.pow_mul,Nat.mul_comm,Nat.pow_mul,Nat.pow_mod,Uh,Nat.one_pow]
 exact ah7 sY.2.1
def aiZ{a b}(h:PN∣a*b):PN∣a\/PN∣b:=by
 rcases prP.dv (Nat.gcd PN a) (Nat.gcd_dvd_left ..) with h1|h1
 ·exact .inr (Nat.Coprime.dvd_of_dvd_mul_left h1 h)
 ·exact .inl (h1▸Nat.gcd_dvd_right PN a)
abbrev Fp:=Fin PN
instance:NeZero PN:=⟨by decide⟩
def ai0{a b:Fp}(h:a*b=0):a=0\/b=0:=by
 have c:=ahV Fin.val h
 rcases aiZ (Nat.dvd_of_mod_eq_zero c) with h2|h2
 ·refine .inl (Fin.ext ?_)
  have:=Nat.eq_zero_of_dvd_of_lt h2 a.isLt
  exact this
 ·refine .inr (Fin.ext ?_)
  have:=Nat.eq_zero_of_dvd_of_lt h2 b.isLt
  exact this
def ph(x:Int):Fp:=Fin.ofNat PN (O (x%Pm))
def IF{x}(a:0<=x)(h1:x<Pm):((ph x).val:Int)=x:=by
 show((O (x%Pm)%PN:Nat):Int)=x
 rw[ahG a h1,Int.natCast_emod,BF,Int.toNat_of_nonneg a,ahG a h1]
def Ui a:ph (a.val:Int)=a:=by
 refine Fin.ext ?_
 show((a.val:Int)%Pm).toNat%PN=a.val
 rw[<-BF, <-Int.natCast_emod,aaq,Nat.mod_mod,ah7 a.isLt]
def ng x:ph (x%Pm)=ph x:=by
 unfold ph
 rw[Int.emod_emod]
def arI{x y}(h:ph x=ph y):x%Pm=y%Pm:=by
 have b:=ahV (λa:Fp=>(a.val:Int)) h
 have e:∀x,((ph x).val:Int)=x%Pm:=λx=>by
  rw[<-ng,IF (iC x).1 (iC x).2]
 rw[<-e, <-e];exact b
def Uj{x a}(h:x%Pm=(a.val:Int)):ph x=a:=by
 rw[<-Ui a, <-h,ng]
def wH x:((ph x).val:Int)=x%Pm:=by
 rw[<-ng,IF (iC x).1 (iC x).2]
def Uk x y:ph (x*y)=ph x*ph y:=by
 refine Uj ?_
 show x*y%Pm=(((ph x).val*(ph y).val%PN:Nat):Int)
 rw[Int.natCast_emod,Int.natCast_mul,wH,wH,BF, <-Int.mul_emod]
def ai1 x y:ph (x+y)=ph x+ph y:=by
 refine Uj ?_
 show(x+y)%Pm=((((ph x).val+(ph y).val)%PN:Nat):Int)
 rw[Int.natCast_emod,Int.natCast_add,wH,wH,BF, <-Int.add_emod]
def ai2 x y:ph (x-y)=ph x-ph y:=by
 refine Uj ?_
 show(x-y)%Pm=((((PN-(ph y).val)+(ph x).val)%PN:Nat):Int)
 rw[Int.natCast_emod,Int.natCast_add,Int.natCast_sub (Nat.le_of_lt (ph y).isLt),wH,wH,BF]
 rw[show Pm-y%Pm+x%Pm=(x%Pm-y%Pm)+Pm*1 by omega,Int.add_mul_emod_self_left, <-Int.sub_emod]
def zj x y:ph (mm x y)=ph x*ph y:=by unfold mm;rw[ng,Uk]
def K0 x y:ph (ma x y)=ph x+ph y:=by unfold ma;rw[ng,ai1]
def K2 x y:ph (ms x y)=ph x-ph y:=by unfold ms;rw[ng,ai2]
def yA:ph 0=0:=rfl
def IG:ph 1=1:=by decide
def Ul{x y}(a:0<=x/\x<Pm)(b:0<=y/\y<Pm)(h:ph x=ph y):x=y:=by
 have:=arI h
 rw[ahG a.1 a.2,ahG b.1 b.2] at this
 exact this
def fi(a:Fp):Fp:=ph (KZ a.val)
def Um{a:Fp}(h:a≠0):a*fi a=1:=by
 have e:=Nat.pos_of_ne_zero λq=>h (Fin.ext q)
 have b:=aiY e a.isLt
 have f:O (Pm-2)+1=PF:=by decide
 rw[<-f,Nat.pow_succ] at b
 have c:(a.val:Int)*KZ (a.val:Int)%Pm=1:=by
  unfold KZ xC
  generalize (O (Pm-2))=k at b ⊢
  rw[<-BF, <-Int.natCast_pow, <-Int.natCast_emod, <-Int.natCast_mul, <-Int.natCast_emod,Nat.mul_mod_mod,Nat.mul_comm,b]
  rfl
 have d:ph ((a.val:Int)*KZ (a.val:Int))=1:=by rw[<-ng,c,IG]
 rw[Uk,Ui] at d
 exact d
def ai3 x(a:0<=x)(h1:x<Pm):ph (KZ x)=fi (ph x):=by
 unfold fi
 rw[IF a h1]
abbrev S4:=Int×Int×Int×Int
def dX(x z:Int):Int:=mm (mm (ma x z) (ma x z)) (mm (ms x z) (ms x z))
def dE(x z:Int):Int:=ms (mm (ma x z) (ma x z)) (mm (ms x z) (ms x z))
def dZ(x z:Int):Int:=mm (dE x z) (ma (mm (ma x z) (ma x z)) (mm 121665 (dE x z)))
def aL(x z a b:Int):Int:=mm (ms a b) (ma x z)
def aR(x z a b:Int):Int:=mm (ma a b) (ms x z)
def aX(x z a b:Int):Int:=mm (ma (aL x z a b) (aR x z a b)) (ma (aL x z a b) (aR x z a b))
def aZ(u x z a b:Int):Int:=mm u (mm (ms (aL x z a b) (aR x z a b)) (ms (aL x z a b) (aR x z a b)))
def stp(u:Int)(bit:Bool)(s:S4):S4:=
 bif bit then(aX s.2.2.1 s.2.2.2 s.1 s.2.1,aZ u s.2.2.1 s.2.2.2 s.1 s.2.1,dX s.2.2.1 s.2.2.2,dZ s.2.2.1 s.2.2.2)
 else(dX s.1 s.2.1,dZ s.1 s.2.1,aX s.1 s.2.1 s.2.2.1 s.2.2.2,aZ u s.1 s.2.1 s.2.2.1 s.2.2.2)
def run(u:Int)(bits:Nat->Bool)(s:S4):Nat->S4
 |0=>s
 |j+1=>stp u (bits j) (run u bits s j)
def E6 u bits(s:S4):∀n,run u bits s (n+1)=run u (λj=>bits (j+1)) (stp u (bits 0) s) n
 |0=>rfl
 |n+1=>by rw[run,E6 u bits s n,run]
def mT(s:S4):Int:=mm s.1 (KZ s.2.1)
section
variable {n:Nat} [NeZero n] (a b x z x' z' u k:Fin n)
def arJ:((a*x+a*z)*(a*x+a*z))*((a*x-a*z)*(a*x-a*z))=(a*a*(a*a))*(((x+z)*(x+z))*((x-z)*(x-z))):=by grobner
def arK:((a*x+a*z)*(a*x+a*z)-(a*x-a*z)*(a*x-a*z))*((a*x+a*z)*(a*x+a*z)+k*((a*x+a*z)*(a*x+a*z)-(a*x-a*z)*(a*x-a*z)))=
  (a*a*(a*a))*(((x+z)*(x+z)-(x-z)*(x-z))*((x+z)*(x+z)+k*((x+z)*(x+z)-(x-z)*(x-z)))):=by grobner
def arL:((b*x'-b*z')*(a*x+a*z)+(b*x'+b*z')*(a*x-a*z))*((b*x'-b*z')*(a*x+a*z)+(b*x'+b*z')*(a*x-a*z))=
  (a*b*(a*b))*(((x'-z')*(x+z)+(x'+z')*(x-z))*((x'-z')*(x+z)+(x'+z')*(x-z))):=by grobner
def arM:u*(((b*x'-b*z')*(a*x+a*z)-(b*x'+b*z')*(a*x-a*z))*((b*x'-b*z')*(a*x+a*z)-(b*x'+b*z')*(a*x-a*z)))=
  (a*b*(a*b))*(u*(((x'-z')*(x+z)-(x'+z')*(x-z))*((x'-z')*(x+z)-(x'+z')*(x-z)))):=by grobner
def i_e(h:x*z=0):(x+z)*(x+z)-(x-z)*(x-z)=0:=by grobner
def i_t:((u-1)*(1+0)+(u+1)*(1-0))*((u-1)*(1+0)+(u+1)*(1-0))=(4*u)*u:=by grobner
def azT:u*(((u-1)*(1+0)-(u+1)*(1-0))*((u-1)*(1+0)-(u+1)*(1-0)))=(4*u)*1:=by grobner
end
def abf x z:ph (dX x z)=((ph x+ph z)*(ph x+ph z))*((ph x-ph z)*(ph x-ph z)):=by unfold dX;simp only[zj,K0,K2]
def Un x z:ph (dZ x z)=((ph x+ph z)*(ph x+ph z)-(ph x-ph z)*(ph x-ph z))*((ph x+ph z)*(ph x+ph z)+ph 121665*((ph x+ph z)*(ph x+ph z)-(ph x-ph z)*(ph x-ph z))):=by unfold dZ dE;simp only[zj,K0,K2]
def Uo x z x' z':ph (aX x z x' z')=((ph x'-ph z')*(ph x+ph z)+(ph x'+ph z')*(ph x-ph z))*((ph x'-ph z')*(ph x+ph z)+(ph x'+ph z')*(ph x-ph z)):=by unfold aX aL aR;simp only[zj,K0,K2]
def OY u x z x' z':ph (aZ u x z x' z')=ph u*(((ph x'-ph z')*(ph x+ph z)-(ph x'+ph z')*(ph x-ph z))*((ph x'-ph z')*(ph x+ph z)-(ph x'+ph z')*(ph x-ph z))):=by unfold aZ aL aR;simp only[zj,K0,K2]
structure Sc(a b:Fp)(s t:S4):Prop where
 x0:ph s.1=a*ph t.1
 z0:ph s.2.1=a*ph t.2.1
 x1:ph s.2.2.1=b*ph t.2.2.1
 z1:ph s.2.2.2=b*ph t.2.2.2
def Sn(s t:S4):Prop:=∃a b:Fp,a≠0/\b≠0/\Sc a b s t
def jL{a b:Fp}(c:a≠0)(d:b≠0):a*b≠0:=λh=>(ai0 h).elim c d
def ai4{u}{bit:Bool}{s t:S4}(h:Sn s t):Sn (stp u bit s) (stp u bit t):=by
 have⟨a,b,c,d,e,f,g,i⟩:=h
 cases bit with
 |true=>
  refine⟨b*a*(b*a),b*b*(b*b),jL (jL d c) (jL d c),jL (jL d d) (jL d d),?_,?_,?_,?_⟩
  ·show ph (aX s.2.2.1 s.2.2.2 s.1 s.2.1)=_*ph (aX t.2.2.1 t.2.2.2 t.1 t.2.1)
   rw[Uo,Uo,e,f,g,i,arL]
  ·show ph (aZ u s.2.2.1 s.2.2.2 s.1 s.2.1)=_*ph (aZ u t.2.2.1 t.2.2.2 t.1 t.2.1)
   rw[OY,OY,e,f,g,i,arM]
  ·show ph (dX s.2.2.1 s.2.2.2)=_*ph (dX t.2.2.1 t.2.2.2)
   rw[abf,abf,g,i,arJ]
  ·show ph (dZ s.2.2.1 s.2.2.2)=_*ph (dZ t.2.2.1 t.2.2.2)
   rw[Un,Un,g,i,arK]
 |false=>
  refine⟨a*a*(a*a),a*b*(a*b),jL (jL c c) (jL c c),jL (jL c d) (jL c d),?_,?_,?_,?_⟩
  ·show ph (dX s.1 s.2.1)=_*ph (dX t.1 t.2.1)
   rw[abf,abf,e,f,arJ]
  ·show ph (dZ s.1 s.2.1)=_*ph (dZ t.1 t.2.1)
   rw[Un,Un,e,f,arK]
  ·show ph (aX s.1 s.2.1 s.2.2.1 s.2.2.2)=_*ph (aX t.1 t.2.1 t.2.2.1 t.2.2.2)
   rw[Uo,Uo,e,f,g,i,arL]
  ·show ph (aZ u s.1 s.2.1 s.2.2.1 s.2.2.2)=_*ph (aZ u t.1 t.2.1 t.2.2.1 t.2.2.2)
   rw[OY,OY,e,f,g,i,arM]
def Up{u bits}{s t:S4}(h:Sn s t):∀n,Sn (run u bits s n) (run u bits t n)
 |0=>h
 |n+1=>ai4 (Up h n)
def E7(x m:Int):∀k,(x%m)^k%m=x^k%m
 |0=>by rw[Int.pow_zero,Int.pow_zero]
 |k+1=>by rw[Int.pow_succ,Int.pow_succ,Int.mul_emod,E7 x m k,Int.emod_emod, <-Int.mul_emod]
def C3 x:ph (KZ x)=fi (ph x):=by
 have e:KZ x=KZ (x%Pm):=by
  unfold KZ xC
  generalize (O (Pm-2))=k
  exact(E7 x Pm k).symm
 rw[e,ai3 _ (iC x).1 (iC x).2,ng]
def K3:fi 0=0:=by
 unfold fi KZ xC
 have d:((0:Fp).val:Int)=0:=rfl
 rw[d]
 have c:(0:Int)^O (Pm-2)=0:=Int.zero_pow (by decide)
 rw[c];rfl
def abg{a z:Fp}(d:a≠0):a*fi (a*z)=fi z:=by
 by_cases c:z=0
 ·subst c
  rw[show a*0=(0:Fp) by grobner,K3];grobner
 ·have e:=Um (jL d c)
  have h:=Um c
  generalize fi (a*z)=f at e ⊢
  generalize fi z=g at h ⊢
  clear d c
  grobner
def ai5{s t}(h:Sn s t):mT s=mT t:=by
 have⟨a,b,d,f,c,e,g,i⟩:=h
 refine Ul (iC _) (iC _) ?_
 unfold mT
 rw[zj,zj,C3,C3,c,e, <-abg d (z:=ph t.2.1)]
 generalize ph t.1=x
 generalize fi (a*ph t.2.1)=y
 grobner
def Zz(s:S4):Prop:=ph s.1*ph s.2.1=0/\ph s.2.2.1*ph s.2.2.2=0
def Uq{u bit s}(e:ph u=0)(h:Zz s):ph (stp u bit s).2.1=0/\ph (stp u bit s).2.2.2=0:=by
 have d:∀x z,ph x*ph z=0->ph (dZ x z)=0:=λx z f=>by
  rw[Un,i_e _ _ f];grobner
 have c:∀x z x' z',ph (aZ u x z x' z')=0:=λx z x' z'=>by
  rw[OY,e];grobner
 cases bit with
 |true=>exact⟨c _ _ _ _,d _ _ h.2⟩
 |false=>exact⟨d _ _ h.1,c _ _ _ _⟩
def Ur{u bits s}(c:ph u=0)(h:Zz s):∀n,Zz (run u bits s n)
 |0=>h
 |n+1=>by
  have k:=Uq (bit:=bits n) c (Ur (bits:=bits) c h n)
  unfold Zz
  rw[run,k.1,k.2]
  constructor<;>grobner
def Us{u bits s}(c:ph u=0)(h:Zz s) n:mT (run u bits s (n+1))=0:=by
 have k:=(Uq (bit:=bits n) c (Ur (bits:=bits) c h n)).1
 refine Ul (iC _) ⟨Int.le_refl _,kg⟩ ?_
 unfold mT
 rw[zj,C3,run,k,K3,yA]
 grobner
def ZO(u:Int):S4:=(1,0,u,1)
def Ut{u}(c:ph u=0):Zz (ZO u):=by
 constructor
 ·show ph 1*ph 0=0
  rw[yA];grobner
 ·show ph u*ph 1=0
  rw[c];grobner
def abh:(4:Fp)≠0:=by decide
def Uu{u}(c:ph u≠0):Sn (stp u I (ZO u)) (ZO u):=by
 refine⟨1,4*ph u,by decide,jL abh c,?_,?_,?_,?_⟩
 ·show ph (dX 1 0)=1*ph 1
  decide
 ·show ph (dZ 1 0)=1*ph 0
  decide
 ·show ph (aX 1 0 u 1)=(4*ph u)*ph u
  rw[Uo,yA,IG,i_t]
 ·show ph (aZ u 1 0 u 1)=(4*ph u)*ph 1
  rw[OY,yA,IG,azT]
def ai6 u bits(h:bits 0=I) n:mT (run u bits (ZO u) (n+2))=mT (run u (λj=>bits (j+1)) (ZO u) (n+1)):=by
 by_cases c:ph u=0
 ·rw[Us c (Ut c),Us c (Ut c)]
 ·rw[E6,h]
  exact ai5 (Up (Uu c) _)
def clR(l:pD):pD:=(l.set 0 (IntKind.u8.wrap (IntKind.u8.wrap ((X l 0 0).tdiv 8)*8))).set 31 (IntKind.u8.wrap ((X (l.set 0 (IntKind.u8.wrap (IntKind.u8.wrap ((l.getD 0 0).tdiv 8)*8))) 31 0).tmod 64+64))
def rc0:cu:=mk (P:=Q) [] []
def ai7:aq Q rc0:=au _ aN.nil _ _
abbrev rA(a b:pD):pD:=cJ ((vR a+vR b)%Pm)
abbrev rS(a b:pD):pD:=cJ ((vR a-vR b)%Pm)
abbrev rM(a b:pD):pD:=cJ (vR a*vR b%Pm)
def qdX(x z:pD):pD:=rM (rM (rA x z) (rA x z)) (rM (rS x z) (rS x z))
def qdE(x z:pD):pD:=rS (rM (rA x z) (rA x z)) (rM (rS x z) (rS x z))
def qdZ(k x z:pD):pD:=rM (qdE x z) (rA (rM (rA x z) (rA x z)) (rM k (qdE x z)))
def qaL(x z x' z':pD):pD:=rM (rS x' z') (rA x z)
def qaR(x z x' z':pD):pD:=rM (rA x' z') (rS x z)
def qaX(x z x' z':pD):pD:=rM (rA (qaL x z x' z') (qaR x z x' z')) (rA (qaL x z x' z') (qaR x z x' z'))
def qaZ(u x z x' z':pD):pD:=rM u (rM (rS (qaL x z x' z') (qaR x z x' z')) (rS (qaL x z x' z') (qaR x z x' z')))
abbrev L4:=pD×pD×pD×pD
def Uv(u k:pD)(bit:Bool)(s:L4):L4:=
 bif bit then(qaX s.2.2.1 s.2.2.2 s.1 s.2.1,qaZ u s.2.2.1 s.2.2.2 s.1 s.2.1,qdX s.2.2.1 s.2.2.2,qdZ k s.2.2.1 s.2.2.2)
 else(qdX s.1 s.2.1,qdZ k s.1 s.2.1,qaX s.1 s.2.1 s.2.2.1 s.2.2.2,qaZ u s.1 s.2.1 s.2.2.1 s.2.2.2)
def II(x y z:Bool):cu:=mk [Re.EV,Re.T6,Re.wE] [] λi=>if i=32 then E x else if i=45 then E y else if i=102 then E z else Y
def kj x y z:aq Q (II x y z):=au _ aN.nil _ _
def coH(sec u c:pD)(s:L4)(k:pD):List Blk:=[.b [.t5 sec],.b [.af .i64 16 u],.b [.t5 (t9 32 0)],.b [.t5 c],.b [.af .i64 16 s.1],.b [.af .i64 16 s.2.1],.b [.af .i64 16 s.2.2.1],.b [.af .i64 16 s.2.2.2],.b [.af .i64 16 k]]
def Ei(sec u c:pD)(s:L4)(k:pD)(i:Int):St:=⟨ag 112 [(2,.r5 0),(3,.r5 1),(4,.r5 2),(5,.r5 3),(6,.r5 4),(7,.r5 5),(8,.r5 6),(9,.r5 7),(10,.r5 8),(11,.t6 i)],coH sec u c s k,Z⟩
def coB:Code:=aj (aj (aJ 8 (aI f108)))
def qO(o:Bool)(u k x z x' z':pD):Bool:=
 let P:=λ(o a b:Bool)=>aa o (aa Z (a&&b))
 let c:=rA x z;let B:=rS x z;let d:=rA x' z';let D:=rS x' z'
 let f:=rM c c;let i:=rM B B;let e:=rS f i;let h:=rM D c;let g:=rM d B
 let F:=rA h g;let G:=rS h g
 P (P (P (P (P (P (P (P (P (P (P (P (P (P (P (P (P (P o (ew x) (ew z)) (ew x) (p7 z)) (ew x') (ew z')) (ew x') (p7 z')) (ew c) (ew c)) (ew B) (ew B)) (ew f) (p7 i)) (ew D) (ew c)) (ew d) (ew B)) (ew h) (ew g)) (ew h) (p7 g)) (ew F) (ew F)) (ew G) (ew G)) (ew u) (ew (rM G G))) (ew f) (ew i)) (ew k) (ew e)) (ew f) (ew (rM k e))) (ew e) (ew (rA f (rM k e)))
def rX{o}{u k x z x' z':pD}(l:o=Z)(h:p7 u=Z)(i:p7 k=Z)(g:p7 x=Z)(e:p7 z=Z)(d:p7 x'=Z)(f:p7 z'=Z):qO o u k x z x' z'=Z:=by
 have c:∀o a b,o=Z->a=Z->b=Z->aa o (aa Z (a&&b))=Z:=λo a b j m p=>by rw[j,m,p];rfl
 unfold qO
 simp only
 refine c _ _ _ ?_ (cS _) (cS _)
 refine c _ _ _ ?_ (cS _) (cS _)
 refine c _ _ _ ?_ (gP.1 i).1 (cS _)
 refine c _ _ _ ?_ (cS _) (cS _)
 refine c _ _ _ ?_ (gP.1 h).1 (cS _)
 refine c _ _ _ ?_ (cS _) (cS _)
 refine c _ _ _ ?_ (cS _) (cS _)
 refine c _ _ _ ?_ (cS _) (iU _)
 refine c _ _ _ ?_ (cS _) (cS _)
 refine c _ _ _ ?_ (cS _) (cS _)
 refine c _ _ _ ?_ (cS _) (cS _)
 refine c _ _ _ ?_ (cS _) (iU _)
 refine c _ _ _ ?_ (cS _) (cS _)
 refine c _ _ _ ?_ (cS _) (cS _)
 refine c _ _ _ ?_ (gP.1 d).1 f
 refine c _ _ _ ?_ (gP.1 d).1 (gP.1 f).1
 refine c _ _ _ ?_ (gP.1 g).1 e
 exact c _ _ _ l (gP.1 g).1 (gP.1 e).1
def Bf(e:pD)(i:Int):Int:=(eF .u8 (X e (0+O (i64.wrap (i.tdiv 8))) 0) (O (IntKind.u64.wrap (i.tmod 8)))).tmod 2
def qbO(i:Int):Bool:=aa (aa (aa (aa Z (C (i>=0))) (bC (i64.wrap (i.tdiv 8)) 32)) (C (0+O (i64.wrap (i.tdiv 8))<32))) (C (0<=IntKind.u64.wrap (i.tmod 8)))
section
variable (sec u cl k:pD) (s:L4) (i:Int)
def abi:(exec Q (II Z I I) 60 0 coB (Ei sec u cl s k i)).bind (λr=>(r.2.cut [2,3,4,5,6,7,8,9,10,11] 9).map λq=>(r.1,q))=
  E (.normal,{Ei sec u cl (Uv u k I s) k (i64.wrap (i-1)) with ob:=aa (qO (aa (qbO i) (!(Bf cl i==1))) u k s.1 s.2.1 s.2.2.1 s.2.2.2) (!(Bf cl i==1))}):=by kernel_rfl
def IJ:(exec Q (II Z Z Z) 60 0 coB (Ei sec u cl s k i)).bind (λr=>(r.2.cut [2,3,4,5,6,7,8,9,10,11] 9).map λq=>(r.1,q))=
  E (.normal,{Ei sec u cl (Uv u k Z s) k (i64.wrap (i-1)) with ob:=aa (qO (aa (qbO i) (Bf cl i==1)) u k s.2.2.1 s.2.2.2 s.1 s.2.1) (Bf cl i==1)}):=by kernel_rfl
def ai8:(exec Q (II I I I) 60 0 coB (Ei sec u cl s k i)).bind (λr=>(r.2.cut [2,3,4,5,6,7,8,9,10,11] 9).map λq=>(r.1,q))=
  E (.exit 0,{Ei sec u cl s k i with ob:=aa Z (!C (i>=0))}):=by kernel_rfl
end
def abj{x}:u8 x=Z↔0<=x/\x<256:=Fe.wm
def ai9:∀n:Fin 256,fj .u8 (n.val:Int) 248=IntKind.u8.wrap (IntKind.u8.wrap ((n.val:Int).tdiv 8)*8)/\u8 (fj .u8 (n.val:Int) 248)=Z:=by decide+kernel
def abk:∀n:Fin 256,qn .u8 (fj .u8 (n.val:Int) 127) 64=IntKind.u8.wrap ((n.val:Int).tmod 64+64)/\u8 (qn .u8 (fj .u8 (n.val:Int) 127) 64)=Z/\
  i64.wrap (fj .u8 (eF .u8 (qn .u8 (fj .u8 (n.val:Int) 127) 64) 7) 1)=0:=by decide+kernel
def E8{P:Int->Prop}(h:∀n:Fin 256,P (n.val:Int)){x}(c:u8 x=Z):P x:=by
 have⟨e,d⟩:=abj.1 c
 have:=h ⟨O x,by omega⟩
 rwa [show((⟨O x,by omega⟩:Fin 256).val:Int)=x by show(O x:Int)=x;omega] at this
def K4{l:pD}(h:l.all u8=Z) i{a}(d:u8 a=Z):(l.set i a).all u8=Z:=by
 rw[aaB] at h ⊢
 intro x c
 rcases List.mem_or_eq_of_mem_set c with c|rfl
 ·exact h x c
 ·exact d
def K5{l:pD}(h:l.all u8=Z) i:u8 (X l i 0)=Z:=by
 rw[abQ]
 cases e:l[i]? with
 |none=>rfl
 |some x=>exact aaB.1 h x (ae9 e)
def arN{l:pD}(h:l.all u8=Z)(f:A l=32):OU l=clR l/\(OU l).all u8=Z/\A (OU l)=32/\dD (OU l)/2^255%2=0:=by
 have c:=E8 (P:=λx=>fj .u8 x 248=IntKind.u8.wrap (IntKind.u8.wrap (x.tdiv 8)*8)/\u8 (fj .u8 x 248)=Z) ai9 (K5 h 0)
 have e:=K4 h 0 c.2
 have e1:=E8 (P:=λx=>qn .u8 (fj .u8 x 127) 64=IntKind.u8.wrap (x.tmod 64+64)/\u8 (qn .u8 (fj .u8 x 127) 64)=Z/\i64.wrap (fj .u8 (eF .u8 (qn .u8 (fj .u8 x 127) 64) 7) 1)=0) abk (K5 e 31)
 have g:A (OU l)=32:=by unfold OU;rw[ajT,ajT,f]
 have d:(OU l).all u8=Z:=K4 e 31 e1.2.1
 refine⟨?_,d,g,?_⟩
 ·unfold OU clR
  rw[e1.1,c.1]
 ·have m:=C4 d g (i:=255) (by omega)
  rw[<-m]
  unfold ya
  have j:X (OU l) 31 0=qn .u8 (fj .u8 (X (l.set 0 (fj .u8 (l.getD 0 0) 248)) 31 0) 127) 64:=by
   unfold OU
   rw[abQ,acg (by rw[ajT,f];omega)];rfl
  show i64.wrap (fj .u8 (eF .u8 (X (OU l) 31 0) 7) 1)=0
  rw[j]
  exact e1.2.2
def bt(e:pD)(j:Nat):Bool:=C (dD e/2^(255-j)%2=1)
def Uw x:IE (C (x%2=1))=x%2:=by
 by_cases h:x%2=1
 ·rw[Me h,h];rfl
 ·rw[aaS h]
  show(0:Int)=_
  omega
def abl{e:pD}(h:e.all u8=Z)(c:A e=32){j:Nat}(d:j<256):ya e (255-j)=IE (bt e j):=by
 rw[show(255:Int)-j=((255-j:Nat):Int) by omega,C4 h c (by omega)]
 exact(Uw _).symm
def Ux{e:pD}(c:e.all u8=Z)(l:A e=32){i:Nat}(h1:i<256):Bf e i=dD e/2^i%2:=by
 have d:=zk e c
 rw[l] at d
 have o:=kE c
 generalize dD e=v at*
 have e1:(i:Int).tdiv 8=((i/8:Nat):Int):=by rw[af6 (by omega)];omega
 have e2:(i:Int).tmod 8=((i%8:Nat):Int):=by rw[afS (by omega)];omega
 have f:i64.wrap ((i/8:Nat):Int)=((i/8:Nat):Int):=aM _ (by omega) (by omega)
 have g:IntKind.u64.wrap ((i%8:Nat):Int)=((i%8:Nat):Int):=by rw[cL];omega
 unfold Bf
 rw[e1,e2,f,g,aaq,aaq,af8,d,wI _ _ _ (by omega)]
 rw[mw _ _ _ (by show i%8<=8;omega)]
 have j:v/256^(i/8)/2^(i%8)=v/2^i:=by
  rw[ajn (Int.pow_nonneg (by omega)),show(256:Int)=2^8 from rfl, <-Int.pow_mul, <-Int.pow_add]
  congr 2
  omega
 rw[<-j]
 generalize v/256^(i/8)=Y
 have m:i%8=0\/i%8=1\/i%8=2\/i%8=3\/i%8=4\/i%8=5\/i%8=6\/i%8=7:=by omega
 rcases m with h|h|h|h|h|h|h|h<;>rw[h]<;>simp only[Int.reducePow]<;>rw[afS (by omega)]<;>omega
def nh{a b:pD}(c:Bd a)(d:Bd b):Bd (fM a b)/\fv (fM a b)=mm (fv a) (fv b):=C5 c d
def zl{a b:pD}(c:Bd a)(d:Bd b):Bd (j0 a b)/\fv (j0 a b)=ma (fv a) (fv b):=abm c d
def BG{a b:pD}(c:Bd a)(d:Bd b):Bd (j4 a b)/\fv (j4 a b)=ms (fv a) (fv b):=abn c d
structure BW(s:W4):Prop where
 x0:Bd s.1
 z0:Bd s.2.1
 x1:Bd s.2.2.1
 z1:Bd s.2.2.2
def fvs(s:W4):S4:=(fv s.1,fv s.2.1,fv s.2.2.1,fv s.2.2.2)
def afW:Bd (ep 121665)/\fv (ep 121665)=121665:=by
 have⟨c,d⟩:=rY (n:=121665) (by decide) (by decide)
 exact⟨c,by unfold fv;rw[d];decide⟩
section
variable {u x z x' z':pD} (hu:Bd u) (hx:Bd x) (hz:Bd z) (hx':Bd x') (nI:Bd z')
include hx hz in
theorem K6:Bd (wdX x z)/\fv (wdX x z)=dX (fv x) (fv z):=by
 obtain⟨a1,a2⟩:=zl hx hz
 obtain⟨b1,b2⟩:=BG hx hz
 obtain⟨c1,c2⟩:=nh a1 a1
 obtain⟨d1,d2⟩:=nh b1 b1
 obtain⟨e1,e2⟩:=nh c1 d1
 exact⟨e1,by unfold wdX dX;rw[e2,c2,d2,a2,b2]⟩
include hx hz in
theorem abo:Bd (wdE x z)/\fv (wdE x z)=dE (fv x) (fv z):=by
 obtain⟨a1,a2⟩:=zl hx hz
 obtain⟨b1,b2⟩:=BG hx hz
 obtain⟨c1,c2⟩:=nh a1 a1
 obtain⟨d1,d2⟩:=nh b1 b1
 obtain⟨e1,e2⟩:=BG c1 d1
 exact⟨e1,by unfold wdE dE;rw[e2,c2,d2,a2,b2]⟩
include hx hz in
theorem K7:Bd (wdZ x z)/\fv (wdZ x z)=dZ (fv x) (fv z):=by
 obtain⟨a1,a2⟩:=zl hx hz
 obtain⟨c1,c2⟩:=nh a1 a1
 obtain⟨e1,e2⟩:=abo hx hz
 obtain⟨f1,f2⟩:=nh afW.1 e1
 obtain⟨g1,g2⟩:=zl c1 f1
 obtain⟨h1,h2⟩:=nh e1 g1
 exact⟨h1,by unfold wdZ dZ;rw[h2,g2,f2,e2,c2,a2,afW.2]⟩
include hx hz hx' nI in
theorem K8:Bd (waL x z x' z')/\fv (waL x z x' z')=aL (fv x) (fv z) (fv x') (fv z'):=by
 obtain⟨a1,a2⟩:=zl hx hz
 obtain⟨b1,b2⟩:=BG hx' nI
 obtain⟨c1,c2⟩:=nh b1 a1
 exact⟨c1,by unfold waL aL;rw[c2,a2,b2]⟩
include hx hz hx' nI in
theorem K9:Bd (waR x z x' z')/\fv (waR x z x' z')=aR (fv x) (fv z) (fv x') (fv z'):=by
 obtain⟨a1,a2⟩:=BG hx hz
 obtain⟨b1,b2⟩:=zl hx' nI
 obtain⟨c1,c2⟩:=nh b1 a1
 exact⟨c1,by unfold waR aR;rw[c2,a2,b2]⟩
include hx hz hx' nI in
theorem Lb:Bd (waX x z x' z')/\fv (waX x z x' z')=aX (fv x) (fv z) (fv x') (fv z'):=by
 obtain⟨a1,a2⟩:=K8 hx hz hx' nI
 obtain⟨b1,b2⟩:=K9 hx hz hx' nI
 obtain⟨c1,c2⟩:=zl a1 b1
 obtain⟨d1,d2⟩:=nh c1 c1
 exact⟨d1,by unfold waX aX;rw[d2,c2,a2,b2]⟩
include hu hx hz hx' nI in
theorem Lc:Bd (waZ u x z x' z')/\fv (waZ u x z x' z')=aZ (fv u) (fv x) (fv z) (fv x') (fv z'):=by
 obtain⟨a1,a2⟩:=K8 hx hz hx' nI
 obtain⟨b1,b2⟩:=K9 hx hz hx' nI
 obtain⟨c1,c2⟩:=BG a1 b1
 obtain⟨d1,d2⟩:=nh c1 c1
 obtain⟨e1,e2⟩:=nh hu d1
 exact⟨e1,by unfold waZ aZ;rw[e2,d2,c2,a2,b2]⟩
end
def Uy{u:pD}(hu:Bd u) b{s}(h:BW s):BW (OV u b s)/\fvs (OV u b s)=stp (fv u) b (fvs s):=by
 cases b with
 |true=>
  have a:=Lb h.x1 h.z1 h.x0 h.z0
  have c:=Lc hu h.x1 h.z1 h.x0 h.z0
  have d:=K6 h.x1 h.z1
  have e:=K7 h.x1 h.z1
  exact⟨⟨a.1,c.1,d.1,e.1⟩,Prod.ext a.2 (Prod.ext c.2 (Prod.ext d.2 e.2))⟩
 |false=>
  have a:=Lb h.x0 h.z0 h.x1 h.z1
  have c:=Lc hu h.x0 h.z0 h.x1 h.z1
  have d:=K6 h.x0 h.z0
  have e:=K7 h.x0 h.z0
  exact⟨⟨d.1,e.1,a.1,c.1⟩,Prod.ext d.2 (Prod.ext e.2 (Prod.ext a.2 c.2))⟩
def C6:Bd (ep 1)/\fv (ep 1)=1:=by
 have⟨c,d⟩:=rY (n:=1) (by decide) (by decide)
 exact⟨c,by unfold fv;rw[d];decide⟩
def Uz{u:pD}(hu:Bd u) bits:∀j,BW (wN u bits j)/\fvs (wN u bits j)=run (fv u) bits (ZO (fv u)) j
 |0=>by
  refine⟨⟨C6.1,Bd.z5,hu,C6.1⟩,?_⟩
  show(fv (ep 1),fv z5,fv u,fv (ep 1))=(1,0,fv u,1)
  rw[C6.2,show fv z5=0 by decide]
 |j+1=>by
  have⟨c,e⟩:=Uz hu bits j
  have⟨f,d⟩:=Uy hu (bits j) c
  exact⟨f,by rw[wN,d,e];rfl⟩
def abp{u:pD}(hu:Bd u) bits:Bd (cmW u bits)/\fv (cmW u bits)=mT (run (fv u) bits (ZO (fv u)) 256):=by
 have⟨c,f⟩:=Uz hu bits 256
 have⟨h,e⟩:=abq c.z0
 have⟨d,g⟩:=nh c.x0 h
 rw[cmW,bD]
 refine⟨d,?_⟩
 rw[g,e, <-f]
 rfl
structure OL(s:L4):Prop where
 x0:p7 s.1=true
 z0:p7 s.2.1=true
 x1:p7 s.2.2.1=true
 z1:p7 s.2.2.2=true
def vrs(s:L4):S4:=(vR s.1,vR s.2.1,vR s.2.2.1,vR s.2.2.2)
def tL(a b:pD):vR (rA a b)=ma (vR a) (vR b):=C7 _
def wJ(a b:pD):vR (rS a b)=ms (vR a) (vR b):=C7 _
def jM(a b:pD):vR (rM a b)=mm (vR a) (vR b):=C7 _
def abr(u k:pD) b(s:L4):OL (Uv u k b s):=by
 cases b with
 |true=>exact⟨iU _,iU _,iU _,iU _⟩
 |false=>exact⟨iU _,iU _,iU _,iU _⟩
def arO(x z:pD):vR (qdX x z)=dX (vR x) (vR z):=by unfold qdX dX;rw[jM,jM,jM,tL,wJ]
def azX(x z:pD):vR (qdE x z)=dE (vR x) (vR z):=by unfold qdE dE;rw[wJ,jM,jM,tL,wJ]
def arP{k:pD}(c:vR k=121665)(x z:pD):vR (qdZ k x z)=dZ (vR x) (vR z):=by unfold qdZ dZ;rw[jM,tL,jM,jM,tL,azX,c]
def arQ(x z x' z':pD):vR (qaL x z x' z')=aL (vR x) (vR z) (vR x') (vR z'):=by unfold qaL aL;rw[jM,wJ,tL]
def arR(x z x' z':pD):vR (qaR x z x' z')=aR (vR x) (vR z) (vR x') (vR z'):=by unfold qaR aR;rw[jM,tL,wJ]
def arS(x z x' z':pD):vR (qaX x z x' z')=aX (vR x) (vR z) (vR x') (vR z'):=by unfold qaX aX;rw[jM,tL,arQ,arR]
def arT(u x z x' z':pD):vR (qaZ u x z x' z')=aZ (vR u) (vR x) (vR z) (vR x') (vR z'):=by unfold qaZ aZ;rw[jM,jM,wJ,arQ,arR]
def UA{k:pD}(c:vR k=121665)(u:pD) b(s:L4):vrs (Uv u k b s)=stp (vR u) b (vrs s):=by
 cases b with
 |true=>
  show(vR (qaX _ _ _ _),vR (qaZ _ _ _ _ _),vR (qdX _ _),vR (qdZ _ _ _))=(_,_,_,_)
  rw[arS,arT,arO,arP c];rfl
 |false=>
  show(vR (qdX _ _),vR (qdZ _ _ _),vR (qaX _ _ _ _),vR (qaZ _ _ _ _ _))=(_,_,_,_)
  rw[arS,arT,arO,arP c];rfl
def lad(sec:pD)(n:Int):Int:=mT (run n (λj=>bt (OU sec) (j+1)) (ZO n) 255)
def iK(sec:pD)(n:Int):pD:=lQ (pM 32 (lad sec n))
def uW(sec:pD)(n:Int):A (iK sec n)=32:=by rw[iK,bD,xR]
def yU(sec:pD)(n:Int):fh (iK sec n)=Z:=j9.2 ⟨uW _ _,by rw[iK,bD];exact LI _ _⟩
def D9{sec:pD}(h:fh sec=Z):(mu sec).all u8=Z/\A (mu sec)=32/\dD (mu sec)/2^255%2=0/\mu sec=clR sec:=by have⟨f,e⟩:=j9.1 h;have⟨a,b,c,d⟩:=arN e f;rw[mu,bD];exact⟨b,c,d,a⟩
def Yf:List SV->Option (SV×List Blk×Bool)
 | [.agg [.af .u8 32 a],.agg [.af .u64 5 u]]=>E (.agg [.af .u64 5 (cmW u (bt (mu a)))],[],fh a)
 |_=>Y
def alJ:aK Q:=.val 149 _ func149 (by decide) rfl I 0 Yf λvs v new e=>by
 unfold Yf at e
 split at e
 ·simp only[Mf,aad] at e
  have⟨rfl,rfl,h⟩:=e
  have⟨a,b,_⟩:=D9 h
  exact Ub (j9.1 h).1 λj c=>abl a b c
 ·cases e
def Qv{sec u:pD}(h:fh sec=Z)(a:Bd u):pN (cmW u (bt (mu sec)))=iK sec (fv u):=by
 have⟨b,d⟩:=abp a (bt (mu sec))
 have⟨_,_,c,_⟩:=D9 h
 have e:bt (mu sec) 0=I:=by
  unfold bt
  rw[show 255-0=255 from rfl,c];rfl
 rw[b.bytes,d,ai6 _ _ e 254,iK,bD,lad,mu,bD]
def GK:Bd (ep 9)/\fv (ep 9)=9:=by have⟨b,a⟩:=rY (n:=9) (by decide) (by decide);exact⟨b,by unfold fv;rw[a];decide⟩
def pbC:cu:=mk [alJ,Fe.jK,Fe.Jp,Fe.at7] []
def alK:aq Q pbC:=au _ aN.nil _ _
def MH:List SV->Option (SV×List Blk×Bool)
 | [.agg [.af .u8 32 a]]=>E (.sM (iK a 9),[],fh a)
 |_=>Y
def Qw{sec}(h:fh sec=Z):ak Q 106 [.sM sec] [] (.sM (iK sec 9)) []:=by
 have k:ak Q 106 [.sM sec] [] (.agg [.t5 (pN (cmW (ep 9) (bt (mu sec))))]) []:=
  aP alK 60 func106 (p:=aa Z (aa Z (fh sec))) rfl (by rw[h];rfl) rfl
 rw[Qv h GK.1,GK.2] at k;exact k
def aay:aK Q:=.val 106 _ func106 (by decide) rfl I 0 MH λvs v new e=>by
 unfold MH at e
 split at e
 ·simp only[Mf,aad] at e
  have⟨rfl,rfl,h⟩:=e
  exact Qw h
 ·cases e
def auH:List SV->Option (SV×List Blk×Bool)
 | [.agg [.af .u8 32 l]]=>E (.sM (mu l),[],fh l)
 |_=>Y
def alL{l}(h:fh l=Z):ak Q 153 [.sM l] [] (.sM (mu l)) []:=by rw[(D9 h).2.2.2];have b:=(j9.1 h).1;exact aP ai7 60 func153 (p:=aa (aa Z (Z&&C (A l=32))) (Z&&C (A (l.set 0 (IntKind.u8.wrap (IntKind.u8.wrap ((X l 0 0).tdiv 8)*8)))=32))) (by kernel_rfl) (by rw[ajT,b];rfl) rfl
def aCh:aK Q:=.val 153 _ func153 (by decide) rfl I 0 auH λvs v new e=>by
 unfold auH at e
 split at e
 ·simp only[Mf,aad] at e
  have⟨rfl,rfl,h⟩:=e
  exact alL h
 ·cases e
def aCi:cu:=mk [Re.jK] [] λi=>if i=7 then E I else Y
def MI:aq Q aCi:=au _ aN.nil _ _
def MJ:List SV->Option Int
 | [.int .i64 n]=>bif n==9 then E 9 else bif n==121665 then E 121665 else Y
 |_=>Y
def auI(vs:List SV):Option (SV×List Blk×Bool):=(MJ vs).map λn=>(.agg [.af .i64 16 (cJ n)],[],Z)
def sm9:pD:=9::t9 31 0
def smK:pD:=56129::1::t9 30 0
def adQ:VN sm9=cJ 9:=by unfold VN;rw[show sB (gD sm9) 32%Pm=9 by decide]
def adR:VN smK=cJ 121665:=by unfold VN;rw[show sB (gD smK) 32%Pm=121665 by decide]
def Qx:ak Q 109 [.t6 9] [] (.agg [.af .i64 16 (cJ 9)]) []:=by rw[<-adQ];exact aP MI 60 func109 rfl rfl rfl
def Qy:ak Q 109 [.t6 121665] [] (.agg [.af .i64 16 (cJ 121665)]) []:=by rw[<-adR];exact aP MI 60 func109 rfl rfl rfl
def MK:aK Q:=.val 109 _ func109 (by decide) rfl I 0 auI λvs v new e=>by
 unfold auI MJ at e
 split at e
 ·rename_i n
  by_cases b:n=9
  ·subst b
   cases e
   exact Qx
  ·by_cases a:n=121665
   ·subst a
    cases e
    exact Qy
   ·rw[show(n==9)=I by simpa using b,show(n==121665)=I by simpa using a] at e
    cases e
 ·cases e
def cfC(b:Bool):cu:=mk [Re.EV,Re.T6,Re.wE,Re.aiU,Re.Jp,aCh,MK] [] λi=>if i=32 then E b else Y
def Yg b:aq Q (cfC b):=au _ aN.nil _ _
def l0(u:pD):L4:=(s9,Q4,u,s9)
def kR:pD:=cJ 121665
def J3:vR kR=121665/\p7 kR=Z:=⟨lY (by decide) (by decide),Ar (by decide) (by decide)⟩
def D0 sec u:(bh Q (cfC Z) 60 0 8 (aH (aI f108)) ⟨aU f108.ntmps [.sM sec,.agg [.af .i64 16 u]],[],Z⟩).bind (St.cut [2,3,4,5,6,7,8,9,10,11] 9)=E {Ei sec u (mu sec) (l0 u) kR 254 with ob:=aa Z (aa Z (fh sec))}:=by kernel_rfl
def qN(u:pD)(bits:Nat->Bool):Nat->L4
 |0=>l0 u
 |j+1=>Uv u kR (bits j) (qN u bits j)
def Ea{u}(a:p7 u=Z) bits:∀j,OL (qN u bits j)/\vrs (qN u bits j)=run (vR u) bits (ZO (vR u)) j
 |0=>⟨⟨show p7 s9=Z by decide,show p7 Q4=Z by decide,a,show p7 s9=Z by decide⟩,by show(vR s9,vR Q4,vR u,vR s9)=(1,0,vR u,1);rw[show vR s9=1 by decide,show vR Q4=0 by decide]⟩
 |j+1=>⟨abr _ _ _ _,by rw[qN,UA J3.1,(Ea a bits j).2];rfl⟩
def Yh{i}(a:0<=i)(h1:i<256):qbO i=Z:=by
 have e:i.tdiv 8=i/8:=af6 a
 have e2:i.tmod 8=i%8:=afS a
 have w:i64.wrap (i.tdiv 8)=i/8:=by rw[e];exact aM _ (by omega) (by omega)
 have b:IntKind.u64.wrap (i.tmod 8)=i%8:=by rw[e2,cL];omega
 unfold qbO bC
 rw[w,b]
 simp only[av,No,aac,true_and]
 omega
def alM sec u cl k s i(h:i=-1):Tr Q Y 0 coB (Ei sec u cl s k i) (.exit 0) (Ei sec u cl s k (-1)):=by subst h;exact Tr.post (Tr.cut (kj I I I) 60 _ 9 (by omega) (ai8 sec u cl k s (-1)) rfl) (bG.bR rfl rfl)
def adS{sec u}(h:fh sec=Z)(l:p7 u=Z):Tr Q Y 0 (aJ 8 (aI f108)) (Ei sec u (mu sec) (l0 u) kR 254) .normal (Ei sec u (mu sec) (qN u (λj=>bt (mu sec) (j+1)) 255) kR (-1)):=by
 have⟨a,b,_,_⟩:=D9 h
 have m:=Tr.loop (P:=Q) (ro:=Y) (k:=0) 0 (c:=aJ 8 (aI f108)) rfl (λj:Nat=>Ei sec u (mu sec) (qN u (λj=>bt (mu sec) (j+1)) j) kR (254-j)) 255 (s':=Ei sec u (mu sec) (qN u (λj=>bt (mu sec) (j+1)) 255) kR (-1)) (λj hj=>?_) ?_
 ·exact m
 ·have e1:(254:Int)-j-1=254-((j+1:Nat):Int):=by omega
  have hw:i64.wrap (254-(j:Int)-1)=254-((j+1:Nat):Int):=by rw[aM _ (by omega) (by omega),e1]
  have⟨o0,o1,n,o⟩:=(Ea l (λj=>bt (mu sec) (j+1)) j).1
  have ho:=Yh (i:=254-(j:Int)) (by omega) (by omega)
  have hq:Bf (mu sec) (254-(j:Int))=dD (mu sec)/2^(255-(j+1))%2:=by
   rw[show(254:Int)-j=((255-(j+1):Nat):Int) by omega]
   exact Ux a b (by omega)
  cases g:bt (mu sec) (j+1) with
  |true=>
   have d:Bf (mu sec) (254-(j:Int))=1:=by rw[hq];exact agm g
   have k:=IJ sec u (mu sec) kR (qN u (λj=>bt (mu sec) (j+1)) j) (254-j)
   rw[hw,rX (by rw[ho,d];rfl) l J3.2 n o o0 o1,d] at k
   refine Tr.post (Tr.cut (kj Z Z Z) 60 _ 9 (by omega) k rfl) (bG.bR rfl ?_)
   show(Ei _ _ _ _ _ _).h=(Ei _ _ _ _ _ _).h
   rw[qN,g]
  |false=>
   have d:¬Bf (mu sec) (254-(j:Int))=1:=by rw[hq];exact of_decide_eq_false g
   have f:(Bf (mu sec) (254-(j:Int))==1)=I:=by simpa using d
   have k:=abi sec u (mu sec) kR (qN u (λj=>bt (mu sec) (j+1)) j) (254-j)
   rw[hw,rX (by rw[ho,f];rfl) l J3.2 o0 o1 n o,f] at k
   refine Tr.post (Tr.cut (kj Z I I) 60 _ 9 (by omega) k rfl) (bG.bR rfl ?_)
   show(Ei _ _ _ _ _ _).h=(Ei _ _ _ _ _ _).h
   rw[qN,g]
 ·exact alM _ _ _ _ _ _ (by decide)
def adT{sec u}(c:p7 u=Z):vR (rM (qN u (λj=>bt (mu sec) (j+1)) 255).1 (cJ (xC (vR (qN u (λj=>bt (mu sec) (j+1)) 255).2.1) (O (Pm-2)))))=lad sec (vR u):=by
 have⟨d,b⟩:=Ea c (λj=>bt (mu sec) (j+1)) 255
 generalize f:qN u (λj=>bt (mu sec) (j+1)) 255=q at d b ⊢
 have a:=oC (vR q.2.1) (O (Pm-2))
 rw[jM,lY a.1 a.2]
 have e:lad sec (vR u)=mT (run (vR u) (λj=>bt (mu sec) (j+1)) (ZO (vR u)) 255):=by unfold lad mu;rw[bD]
 rw[e, <-b]
 rfl
def agI:List SV->Option (SV×List Blk×Bool)
 | [.agg [.af .u8 32 a],.agg [.af .i64 16 u]]=>E (.sM (iK a (vR u)),[],fh a&&p7 u)
 |_=>Y
def adU{sec u}(h:fh sec=Z)(b:p7 u=Z):ak Q 108 [.sM sec,.agg [.af .i64 16 u]] [] (.sM (iK sec (vR u))) []:=by
 have c:=adS h b
 have d:=adT (sec:=sec) b
 have a:=(Ea b (λj=>bt (mu sec) (j+1)) 255).1
 generalize qN u (λj=>bt (mu sec) (j+1)) 255=q at c d a
 unfold iK
 rw[<-d]
 refine ak.iH (Yg Z) 60 9 0 func108 (by simp) rfl (λs' x f=>?_) (s:=Ei sec u (mu sec) q kR (-1)) (p:=aa (aa (aa Z (aa Z (p7 q.2.1))) (aa Z (ew q.1&&ew (cJ (xC (vR q.2.1) (O (Pm-2))))))) (aa Z (ew (rM q.1 (cJ (xC (vR q.2.1) (O (Pm-2)))))))) (by kernel_rfl) ?_ rfl rfl
 ·refine TrL.dM (Yg Z) 60 8 _ 9 (by simp) (D0 sec u) (by rw[h];rfl) (by decide) ?_
  exact TrL.dV 8 (by decide) c f
 ·rw[a.z0,(gP.1 a.x0).1,cS,cS];rfl
def auJ:aK Q:=.val 108 _ func108 (by decide) rfl I 0 agI λvs v new e=>by
 unfold agI at e
 split at e
 ·simp only[Mf,aad,No] at e
  have⟨rfl,rfl,b,a⟩:=e
  exact adU b a
 ·cases e
def pqC(x:Bool):cu:=mk [auJ,MK] [] λi=>if i=13 then E x else Y
def alN(x:Bool):aq Q (pqC x):=au _ aN.nil _ _
def Yi:vR (cJ 9)=9/\p7 (cJ 9)=Z:=⟨lY (by decide) (by decide),Ar (by decide) (by decide)⟩
def GL:List SV->Option (SV×List Blk×Bool)
 | [.agg [.af .u8 32 a]]=>E (.sM (iK a 9),[],fh a)
 |_=>Y
def J4{sec}(h:fh sec=Z):ak Q 70 [.sM sec] [] (.sM (iK sec 9)) []:=by
 have k:ak Q 70 [.sM sec] [] (.agg [.t5 (iK sec (vR (cJ 9)))]) []:=
  aP (alN Z) 60 func70 (p:=aa Z (aa Z (fh sec&&p7 (cJ 9)))) rfl (by rw[h,Yi.2];rfl) rfl
 rw[Yi.1] at k;exact k
def ES:aK Q:=.val 70 _ func70 (by decide) rfl I 0 GL λvs v new e=>by
 unfold GL at e
 split at e
 ·simp only[Mf,aad] at e
  have⟨rfl,rfl,h⟩:=e
  exact J4 h
 ·cases e
end La
namespace Fo
open Sy Sh La Re Tr
def jl:pD:=[112,97,116,104]
def dc:pD:=[110,111,100,101]
def iL(lb sec:pD):pD:=lQ (Kd.yX sec lb [] 32)
def iW lb sec:A (iL lb sec)=32:=by rw[iL,bD,Kd.ID]
def aCj:aK Q:=.val 144 _ func144 (by decide) rfl Z 0 (λvs=>match vs with
 | [.agg [.af .u8 32 sec],.str lb,.nl (.slice Y 0 0),.int .i64 n]=>E (.bP [.ro Z .u8 (cD 32 (iL lb sec)),.nl .nilIface],[],C (A sec=32)&&C (A lb<=255)&&C (n=32))
 |_=>Y) λvs v new e=>by
 split at e
 ·rename_i sec lb n
  simp only[Mf,aad,No,aac] at e
  obtain⟨rfl,rfl,⟨h1,h2⟩,rfl⟩:=e
  rw[bV (iW lb sec),iL,bD]
  exact ak.conv (Kd.T4 h1 h2 (by simp) (by decide)) ⟨VE.refl _,VE.refl _,VE.xV I .u8,VE.refl _,trivial⟩ trivial (VE.refl _) trivial
 ·cases e
def dvC:cu:=mk [aCj] []
def alO:aq Q dvC:=au _ aN.nil _ _
def alP lb sec:(aV Q dvC 60 f98 [.sM sec,.str lb] []).v3=E (.sM (cD 32 (iL lb sec)),aa Z (aa Z (C (A sec=32)&&C (A lb<=255)&&Z))):=by kernel_rfl
def OE{lb sec}(b:A sec=32)(a:A lb<=255):ak Q 98 [.sM sec,.str lb] [] (.sM (iL lb sec)) []:=by have k:=aP alO 60 func98 (alP lb sec) (by rw[Me b,Me a];rfl) rfl;rw[bV (iW lb sec)] at k;exact k
def lqC:cu:=mk [Q2.Vy] [] λi=>if i=62 then E Z else Y
def Yj:aq Q lqC:=au _ aN.nil _ _
def aCl sec:(aV Q lqC 60 f145 [.sM (cD 32 sec),.str jl,.nl (.slice Y 0 0),.t6 32] []).v3=E (.bP [.ro Z .u8 (Kd.dJ (cD 32 sec) [0,32,4,112,97,116,104,0,0,0,0] 32),.bool Z],Z):=by kernel_rfl
def aCm sec:(aV Q lqC 60 f145 [.sM (cD 32 sec),.str dc,.nl (.slice Y 0 0),.t6 32] []).v3=E (.bP [.ro Z .u8 (Kd.dJ (cD 32 sec) [0,32,4,110,111,100,101,0,0,0,0] 32),.bool Z],Z):=by kernel_rfl
def Qz{sec lb}(a:A sec=32)(b:lb=jl\/lb=dc):ak Q 145 [.sM sec,.str lb,.nl (.slice Y 0 0),.t6 32] [] (.bP [.ro Z .u8 (cD 32 (iL lb sec)),.bool Z]) []:=by
 rw[bV (iW lb sec),iL,bD,Kd.yX]
 rcases b with rfl|rfl
 ·have k:=aP Yj 60 func145 (aCl sec) rfl rfl
  rw[bV a] at k
  exact k
 ·have k:=aP Yj 60 func145 (aCm sec) rfl rfl
  rw[bV a] at k
  exact k
def Yk:aK Q:=.val 145 _ func145 (by decide) rfl Z 0 (λvs=>match vs with
 | [.agg [.af .u8 32 a],.str b,.nl (.slice Y 0 0),.int .i64 n]=>E (.bP [.ro Z .u8 (cD 32 (iL b a)),.bool Z],[],C (A a=32)&&(C (b=jl)||C (b=dc))&&C (n=32))
 |_=>Y) λvs v new e=>by
 split at e
 ·rename_i a b n
  simp only[Mf,aad,No,agV,aac] at e
  obtain⟨rfl,rfl,⟨c,d⟩,rfl⟩:=e
  exact Qz c d
 ·cases e
def dqC:cu:=mk [Yk] []
def Yl:aq Q dqC:=au _ aN.nil _ _
def aCo sec:(aV Q dqC 300 f99 [.sM (cD 32 sec),.str jl] []).v3=E (.agg [.t5 (cD 32 (iL jl (cD 32 sec)))],Z):=by kernel_rfl
def aCp sec:(aV Q dqC 300 f99 [.sM (cD 32 sec),.str dc] []).v3=E (.agg [.t5 (cD 32 (iL dc (cD 32 sec)))],Z):=by kernel_rfl
def Ij{lb sec}(a:A sec=32)(b:lb=jl\/lb=dc):ak Q 99 [.sM sec,.str lb] [] (.sM (iL lb sec)) []:=by
 rcases b with rfl|rfl
 ·have k:=aP Yl 300 func99 (aCo sec) rfl rfl
  rw[bV a,bV (iW jl sec)] at k
  exact k
 ·have k:=aP Yl 300 func99 (aCp sec) rfl rfl
  rw[bV a,bV (iW dc sec)] at k
  exact k
end Fo
end Go.Proofs.YthlnlcijnoadcaaGreatDoor
namespace Go.Sy
variable {P:Program}
def ak.rz{f args h h1}(g:ak P f args h (.nl (.slice Y 0 0)) h1) K ex wh:ak P f args h (.sl (A h1) 0 0 1 0 0 ex wh) (h1++[.b [.af K 0 []]]):=
 g.post λB e w m _ d R=>⟨e,rfl,⟨d.1,λi v k a c=>by
  cases i with
  |zero=>
   simp only[afZ,Mf] at a
   subst a
   have h1:=d.2 0 _ k rfl c
   exact .inl ⟨rfl,rfl,Y,h1⟩
  |succ i=>simp at a⟩,by
  have:=R.nothing (ps:=[.af K 0 []]) (.inl rfl) rfl
  unfold cO at this
  rw[ae8 rfl] at this
  exact this⟩
def VE.Ym b o i z len cap wh:VE (.sl b o i z len cap Z wh) (.sl b o i z len cap I wh):=λe x h=>by
 rcases h with h|⟨p,c,a,j,f,e,k,_,g,d⟩
 ·exact .inl h
 ·exact .inr ⟨p,c,a,j,f,e,k,(by simp),g,d⟩
def bG.akh{k t h o o'} i{v v'}(d:t[i]?=E (E v))(g:VE v v'):bG k ⟨t,h,o⟩ ⟨t.set i (E v'),h,o'⟩:=by
 have c:=(aaR.1 d).1
 refine bG.mono (by simp) (λj w a=>?_) rfl (λj f a=>⟨f,a,rfl,λ_ _ h=>h⟩) (λj q a=>a)
 by_cases b:i=j
 ·subst b
  have q:(t.set i (E v'))[i]?=E (E v'):=acg c
  have e:=a.symm.trans q
  cases e
  exact⟨v,d,g⟩
 ·have q:(t.set i (E v'))[j]?=t[j]? :=abI b
  exact⟨w,q.symm.trans a,λ_ _ h=>h⟩
end Go.Sy
namespace Go.Sy
section
variable {P:Program} {ro:Option Nat} {k:Nat} {e:cw} {B:dj} {h:List Blk} {w:World}
def qc(i j:Nat)(b:Nat):Nat:=match Nat.beq b i with
 |true=>j
 |false=>match Nat.beq b j with
  |true=>i
  |false=>b
def ML i j:qc i j i=j:=by unfold qc;rw[Nat.beq_refl]
def MM i j:qc i j j=i:=by
 unfold qc
 cases q:Nat.beq j i with
 |true=>exact acr q
 |false=>rw[Nat.beq_refl]
def Ci{i j b}(h1:b≠i)(h2:b≠j):qc i j b=b:=by unfold qc;cases q:Nat.beq b i with
 |true=>exact absurd (acr q) h1
 |false=>
  cases a:Nat.beq b j with
  |true=>exact absurd (acr a) h2
  |false=>rfl
def xl i j b:qc i j (qc i j b)=b:=by
 by_cases c:b=i
 ·subst c;rw[ML,MM]
 ·by_cases a:b=j
  ·subst a;rw[MM,ML]
  ·rw[Ci c a,Ci c a]
def swB(s:Nat->Nat):Blk->Blk
 | .b a=>.b (jN s a)
 | .g g=>.g g
def noG(i j:Nat):Blk->Bool
 | .b _=>Z
 | .g Y=>Z
 | .g (E L)=>L.t.all λo=>lA i o&&lA j o
def Yn:Option Blk->Bool
 |some (.b _)=>Z
 |_=>I
def swH(i j:Nat)(h:List Blk):List Blk:=(t8 (A h)).map λb=>swB (qc i j) ((h[qc i j b]?).getD (.b []))
def swT(i j:Nat)(t:List (Option SV)):List (Option SV):=t.map λx=>x.map (mU (qc i j))
def MN{i j b}(a:b<A h)(c:qc i j b<A h):(swH i j h)[b]?=(h[qc i j b]?).map (swB (qc i j)):=by unfold swH;rw[afr,ajq a];show E (swB (qc i j) ((h[qc i j b]?).getD (.b [])))=_;rw[aaQ c];rfl
def bM.Gp(R:bM B e h w){i j}(hi:B.k<=i)(hj:B.k<=j)(m:Yn h[i]?=Z)(n:Yn h[j]?=Z)(hg:h.all (noG i j)=Z):
  bM B {e with r:=λb=>e.r (qc i j b)} (swH i j h) w:=by
 have V:i<A h:=by cases q:h[i]? with|none=>rw[q] at m;cases m|some _=>exact(aaR.1 q).1
 have lj:j<A h:=by cases q:h[j]? with|none=>rw[q] at n;cases n|some _=>exact(aaR.1 q).1
 have lt:∀{b},b<A h->qc i j b<A h:=λ{b} d=>by
  by_cases z:b=i
  ·subst z;rw[ML];exact lj
  ·by_cases y:b=j
   ·subst y;rw[MM];exact V
   ·rw[Ci z y];exact d
 have l:A (swH i j h)=A h:=by simp[swH]
 have low:∀{b},b<B.k->qc i j b=b:=λ{b} d=>Ci (by omega) (by omega)
 have L:∀{a b},qc i j a=qc i j b->a=b:=λ{a b} q=>by have:=ahV (qc i j) q;rwa [xl,xl] at this
 exact{
  os:=R.os,tape:=R.tape,output:=R.output,size:=R.size
  inj:=λa b p q z y h3=>L (R.inj _ _ p q z y h3)
  dom:=λb p d=>by
   have:=lt (R.dom _ p d)
   rw[xl] at this
   rw[l];exact this
  gM:=λb p d=>R.gM _ p d
  gN:=R.gN,bN:=R.bN,fU:=R.fU
  cM:=λb p d=>by
   rcases R.cM _ p d with g|g
   ·have hk:=R.kr _ p g
    have:qc i j b=b:=by
     have:=low hk
     rw[xl] at this
     exact this.symm
    rw[this] at g
    exact .inl g
   ·exact .inr g
  b6:=λb p d=>by
   show e.r (qc i j b)=E p
   rw[low (R.kr b p d)];exact R.b6 b p d
  cE:=R.cE,n0:=R.n0,dK:=R.dK
  gr:=λb ps d=>by
   have f:b<A h:=by have:=(aaR.1 d).1;rwa [l] at this
   rw[MN f (lt f)] at d
   have⟨x,u,q⟩:=aaC.1 d
   cases x with
   |g g=>cases q
   |b G=>
    have q':ps=jN (qc i j) G:=by have:=q;simp only[swB,Blk.b.injEq] at this;exact this.symm
    subst q'
    rcases R.gr _ G u with⟨F,D⟩|⟨p,o,F,D,c,t,rfl,g3,Q,g5⟩
    ·exact .inl ⟨by rw[dy];exact F,D⟩
    ·refine .inr ⟨p,_,F,D,c,t,rfl,g3,by rw[dy];exact Q,?_⟩
     rw[dy]
     exact PR.mU (e:=e) (e':={e with r:=λb=>e.r (qc i j b)}) (λ_ _ h=>h) (aar _) G _ (λa p _ M=>by show e.r (qc i j (qc i j a))=E p;rw[xl];exact M) g5
  gap:=λb g d=>by
   have f:b<A h:=by have:=(aaR.1 d).1;rwa [l] at this
   rw[MN f (lt f)] at d
   have⟨x,u,q⟩:=aaC.1 d
   cases x with
   |b G=>cases q
   |g g'=>
    cases q
    have hn:=aaB.1 hg _ (ae9 u)
    have⟨F,D⟩:=R.gap _ g u
    have J:qc i j b=b:=by
     by_cases z:b=i
     ·subst z;rw[ML] at u;rw[u] at n;cases n
     ·by_cases y:b=j
      ·subst y;rw[MM] at u;rw[u] at m;cases m
      ·exact Ci z y
    refine⟨F,?_⟩
    rw[J] at D
    refine D.jy (λ_ _ q=>q) rfl λL T v S U W=>VR.cN (e:=e) (e':={e with r:=λb=>e.r (qc i j b)}) (λ_ _ q=>q) (aar _) v S (λa p H M=>?_) W
    subst T
    have K:=aaB.1 hn _ U
    simp only[lA,No,af9] at K
    show e.r (qc i j a)=E p
    rw[Ci (λq=>by rw[q,K.1] at H;cases H) (λq=>by rw[q,K.2] at H;cases H)]
    exact M
  yi:=R.yi,yb:=R.yb,old:=R.old,lz:=R.lz
  kr:=R.kr
  iT:=by rw[l];exact R.iT
  g7:=R.g7,jG:=R.jG}
def bG.Gp{t o o'} i j(hi:k<=i)(F:k<=j)(d:Yn h[i]?=Z)(f:Yn h[j]?=Z)(y:h.all (noG i j)=Z):bG k ⟨t,h,o⟩ ⟨swT i j t,swH i j h,o'⟩:=λB e w G hB g R=>by
 refine⟨{e with r:=λb=>e.r (qc i j b)},rfl,⟨by show(swT i j t).length=_;rw[swT,List.length_map];exact g.1,λa v l z D=>?_⟩,R.Gp (af3 hB hi) (af3 hB F) d f y⟩
 have c:=z
 rw[swT,afr] at c
 have⟨x,n,q⟩:=aaC.1 c
 cases x with
 |none=>cases q
 |some u=>
  cases q
  exact VR.mU (e:=e) (e':={e with r:=λb=>e.r (qc i j b)}) (λ_ _ h=>h) (aar _) u l (λa p _ m=>by show e.r (qc i j (qc i j a))=E p;rw[xl];exact m) (g.2 a u l n D)
def bM.Iz(R:bM B e h w){b ps ps'}(l:h[b]?=E (.b ps))(q:∀p o,e.r b=E p->w.heap[p.n]?=E o->BR e p ps o->BR e p ps' o)(t:aC ps=0->aC ps'=0):bM B e (h.set b (.b ps')) w:=by
 have d:=(aaR.1 l).1
 exact{
  os:=R.os,tape:=R.tape,output:=R.output,size:=R.size,inj:=R.inj,dom:=λi p a=>by simpa using R.dom i p a,gM:=R.gM,gN:=R.gN,bN:=R.bN,fU:=R.fU,cM:=R.cM,b6:=R.b6,cE:=R.cE,n0:=R.n0,dK:=R.dK
  gr:=λi m a=>by
   by_cases c:b=i
   ·subst c
    rw[acg d] at a;cases a
    rcases R.gr b ps l with⟨j,f⟩|⟨p,o,j,f,s⟩
    ·exact .inl ⟨t j,f⟩
    ·exact .inr ⟨p,o,j,f,q p o j f s⟩
   ·rw[abI c] at a;exact R.gr i m a
  gap:=λi g a=>by
   by_cases c:b=i
   ·subst c;rw[acg d] at a;cases a
   ·rw[abI c] at a;exact R.gap i g a
  yi:=R.yi,yb:=R.yb,old:=R.old,lz:=R.lz,kr:=R.kr,iT:=by simpa using R.iT,g7:=R.g7,jG:=R.jG}
def bM.UJ(R:bM B e h w){b pre post b' o i z len cap wh}(u:h[b]?=E (.b (pre++ .sl b' o i z len cap I wh::post))):∃c,len<=c/\bM B e (h.set b (.b (pre++ .sl b' o i z len c Z wh::post))) w:=by
 have d:∀c m,aC (pre++ .sl b' o i z len c m wh::post)=aC pre+(1+aC post):=λc m=>by rw[eE];rfl
 rcases R.gr b _ u with⟨g,_⟩|⟨p,W,g,N,c,t,rfl,Q,l,J⟩
 ·rw[d] at g;omega
 ·have⟨V,y2,s,D,x⟩:=J.split
  obtain⟨v,F,y,L,rfl⟩:=x
  have f:∃c,len<=c/\VR e (.sl b' o i z len c Z wh) v:=by
   rcases y with⟨rfl,_,a,rfl⟩|⟨p,c,a,S,K,M,_,_,n,T⟩
   ·exact⟨0,aar _,.inl ⟨rfl,rfl,a,rfl⟩⟩
   ·exact⟨c,n,.inr ⟨p,c,a,S,K,M,aar _,λ_=>rfl,n,T⟩⟩
  have⟨k,G,H⟩:=f
  refine⟨k,G,R.Iz u (λp2 U j r _=>?_) (λq=>by rw[d] at q;omega)⟩
  rw[g] at j;cases j
  rw[N] at r;cases r
  refine⟨c,t,rfl,Q,by rw[d] at l ⊢;exact l,?_⟩
  rw[d] at s ⊢
  rw[s]
  exact D.append ⟨v,F,H,L,rfl⟩
def bG.Ib{t o o'} b(a:Yn h[b]?=Z):bG k ⟨t,h,o⟩ ⟨t,h.set b (.b []),o'⟩:=λB e w j hB d R=>by cases q:h[b]? with
 |none=>rw[q] at a;cases a
 |some x=>
  cases x with
  |g g=>rw[q] at a;cases a
  |b l=>exact⟨e,rfl,d,R.Iz q (λp o _ _ ⟨c,t,f,i,_,_⟩=>⟨c,t,f,i,aaH _,rfl⟩) (λ_=>rfl)⟩
def bM.akF(R:bM B e h w){b pre post b' z len cap}(r:h[b]?=E (.b (pre++ .b9 b' z len cap I::post))):∃c,len<=c/\bM B e (h.set b (.b (pre++ .b9 b' z len c Z::post))) w:=by
 have d:∀c l,aC (pre++ .b9 b' z len c l::post)=aC pre+(1+aC post):=λc l=>by rw[eE];rfl
 rcases R.gr b _ r with⟨g,_⟩|⟨p,U,g,L,c,t,rfl,M,j,G⟩
 ·rw[d] at g;omega
 ·have⟨T,V,o,x,s⟩:=G.split
  obtain⟨v,y,u,J,rfl⟩:=s
  have f:∃c,len<=c/\VR e (.b9 b' z len c Z) v:=by
   rcases u with⟨rfl,_,a,rfl⟩|⟨p,c,a,N,H,K,_,_,m,Q⟩
   ·exact⟨0,aar _,.inl ⟨rfl,rfl,a,rfl⟩⟩
   ·exact⟨c,m,.inr ⟨p,c,a,N,H,K,aar _,λ_=>rfl,m,Q⟩⟩
  have⟨k,D,F⟩:=f
  refine⟨k,D,R.Iz r (λp2 S i n _=>?_) (λq=>by rw[d] at q;omega)⟩
  rw[g] at i;cases i
  rw[L] at n;cases n
  refine⟨c,t,rfl,M,by rw[d] at j ⊢;exact j,?_⟩
  rw[d] at o ⊢
  rw[o]
  exact x.append ⟨v,y,F,J,rfl⟩
def Tr.aBm{c t f s' x b pre post b' z len cap}(p:h[b]?=E (.b (pre++ .b9 b' z len cap I::post)))
  (g:∀a,len<=a->Tr P ro k c ⟨t,h.set b (.b (pre++ .b9 b' z len a Z::post)),f⟩ x s'):Tr P ro k c ⟨t,h,f⟩ x s':=λB e w m d Q l hB i R n=>by have⟨a,o,j⟩:=bM.akF R p;exact g a o B e w m d Q l hB i j n
def Tr.auK{c t f s' x b pre post b' o i z len cap wh}(r:h[b]?=E (.b (pre++ .sl b' o i z len cap I wh::post)))
  (g:∀a,len<=a->Tr P ro k c ⟨t,h.set b (.b (pre++ .sl b' o i z len a Z wh::post)),f⟩ x s'):Tr P ro k c ⟨t,h,f⟩ x s':=λB e w n d Q m hB j R p=>by have⟨a,q,l⟩:=bM.UJ R r;exact g a q B e w n d Q m hB j l p
end
end Go.Sy
namespace Go.Proofs.YthlnlcijnoadcaaGreatDoor
namespace Tr
open Sy
def sS(t:Nat->aE):Nat->Nat->pD
 |0,x=>bif (t x).used then((x:Nat):Int)::(t x).un.map (2* ·) else[]
 |k+1,x=>bif (t x).used then((x:Nat):Int)::(t x).un.map (2* ·) else sS t k (x-2^k)++sS t k (x+2^k)
def bE(t:Nat->aE)(x:Int):pD:=sS t (l8 7 (O x)) (O x)
def unB(N:Nat)(t:Nat->aE):Bool:=(t8 N).all λx=>C ((t x).un.length<=64)&&(t x).un.all λu=>C (0<=u)&&C (u<64)
def xW(N:Nat):Bool:=bn.any λm=>C (N=2*m-1)
def iu(N:Nat)(t:Nat->aE)(x:Int)(k:Nat):Bool:=unB N t&&xW N&&C (0<=x)&&C (x<N)&&C (l8 7 (O x)<k)
def aeU(k:Nat):List SV->Option (SV×List Blk×Bool)
 | [.aO I 99 N g,.int .i64 x]=>E (.sl 0 0 0 1 (A (bE (ai g) x)) (A (bE (ai g) x)) I Z,[.b [.af .i64 (A (bE (ai g) x)) (bE (ai g) x)]],cX N g&&C (N<=71)&&iu N (ai g) x k)
 |_=>Y
def rN(k:Nat):Prop:=∀N(t:Nat->aE)x,eo N t->iu N t x k=Z->
 ak Q 148 [.p4 I N t,.t6 x] [] (.sl 0 0 0 1 (A (bE t x)) (A (bE t x)) I Z) [.b [.af .i64 (A (bE t x)) (bE t x)]]
def avY(k:Nat)(d:rN k):aK Q:=.val 148 _ func148 (by decide) rfl Z 1 (aeU k) λvs v new e=>by
 unfold aeU at e
 split at e
 ·simp only[Mf,aad,No,aac] at e
  have⟨rfl,rfl,⟨b,c⟩,f⟩:=e
  exact ak.conv (d _ _ _ (eo.of b c) f) ⟨VE.kM b,VE.refl _,trivial⟩ trivial (VE.refl _) ⟨PE.refl _,trivial⟩
 ·cases e
def rvC(k:Nat)(a:rN k)(l:List (Nat×Bool)):cu:=mk [kA,avY k a] [] (uT l)
def uy(k:Nat)(a:rN k) l:aq Q (rvC k a l):=au _ aN.nil _ _
def rvB:Code:=aI f148
def rvA:Code:=cdA (aJ 2 rvB)
def rv0(N:Nat)(t:Nat->aE)(x:Int):St:=⟨ag 48 [(0,.p4 I N t),(1,.t6 x),(14,.bool Z)],[],Z⟩
def Zn(un xs:pD)(n:Nat)(ex:Bool)(j:Int):St:=⟨ag 48 [(5,.sl 0 0 0 1 n n ex Z),(21,.ro I .i64 un),(22,.t6 (A un)),(23,.t6 j)],[.b [.af .i64 n xs]],Z⟩
def CD(N:Nat)(t:Nat->aE)(x:Int)(k:Nat)(a:rN k):aD (az [0,1,14] 0 ((bh Q (rvC k a [(14,Z)]) 60 0 2 (aH rvB) ⟨aU f148.ntmps [.p4 I N t,.t6 x],[],Z⟩).x3))=(E (.normal,(rv0 N t x).t,[]),(aa (aa (aa Z (bC x N)) (Z&&(C (O x<N)&&Z))) (t (O x)).1)):=by kernel_rfl
def Hy(N:Nat)(t:Nat->aE)(x:Int)(k:Nat)(a:rN k):aD (az [5,21,22,23] 1 ((bh Q (rvC k a []) 60 0 2 (aH rvA) (rv0 N t x)).x3))=(E (.normal,(Zn (t (O x)).un [x] 1 Z 0).t,(Zn (t (O x)).un [x] 1 Z 0).h),(aa (aa Z (bC x N)) (Z&&(C (O x<N)&&Z)))):=by kernel_rfl
def anD N t x k ih:=bu (Hy N t x k ih)
def aeW N t x k ih:=bz (Hy N t x k ih)
def Hz un xs(n:Nat)(j:Int)(k:Nat)(b:rN k):aD (az [5,21,22,23] 1 (exec Q (rvC k b [(24,Z)]) 60 0 (aj (aj (aJ 2 rvA))) (Zn un xs n I j)))=(E (.normal,(Zn un (xs++[i64.wrap (2*X un (O j) 0)]) (n+1) I (i64.wrap (j+1))).t,(Zn un (xs++[i64.wrap (2*X un (O j) 0)]) (n+1) I (i64.wrap (j+1))).h),(aa (aa (aa (aa Z (C (j<(A un:Int)))) (bC j (A un))) (C (O j<A un))) (aa (aa (aa (aa (C (A ((t9 1 0).set 0 (i64.wrap (2*un.getD j.toNat 0)))=1)&&Z) (C (A xs=n)&&(C (n<=n)&&Z))) (C (A xs=n))) Z) (C (n+1<=2^38))))):=by kernel_rfl
def anE un xs n j k ih:=bu (Hz un xs n j k ih)
def aeX un xs n j k ih:=bz (Hz un xs n j k ih)
def HA un xs(n:Nat)(j:Int)(k:Nat)(a:rN k):aD (az [5] 1 (exec Q (rvC k a [(24,I)]) 60 0 (aj (aj (aJ 2 rvA))) (Zn un xs n I j)))=(E (.exit 0,ag 48 [(5,.sl 0 0 0 1 n n I Z)],[.b [.af .i64 n xs]]),(aa Z !C (j<(A un:Int)))):=by kernel_rfl
def anF un xs n j k ih:=bu (HA un xs n j k ih)
def aeY un xs n j k ih:=bz (HA un xs n j k ih)
def anG(N:Nat)(t:Nat->aE)(x:Int)(k:Nat)(a:rN k):(aV Q (rvC k a [(14,I),(40,Z)]) 60 f148 [.p4 I N t,.t6 x] []).v3=E (.nl (.slice Y 0 0),aa (aa (aa (aa (aa Z (bC x N)) (Z&&(C (O x<N)&&Z))) !(t (O x)).1) (aa Z (C (0<=x)&&C (x<64)))) (C (bk x<0))):=by kernel_rfl
def anH(N:Nat)(t:Nat->aE)(x:Int)(k:Nat)(a:rN k):(aV Q (rvC k a [(14,I),(40,I)]) 60 f148 [.p4 I N t,.t6 x] [])=E (.sl 0 0 0 1 (A (bE t (bk x))+A (bE t (aW x))) (A (bE t (bk x))+A (bE t (aW x))) I Z,[.b [.af .i64 (A (bE t (bk x))+A (bE t (aW x))) (bE t (bk x)++bE t (aW x))],.b [.af .i64 (A (bE t (aW x))) (bE t (aW x))]],aa (aa (aa (aa (aa (aa (aa (aa Z (bC x N)) (Z&&(C (O x<N)&&Z))) !(t (O x)).1) (aa Z (C (0<=x)&&C (x<64)))) !C (bk x<0)) (aa Z ((cX N λi=>ah (aA t i))&&C (N<=71)&&iu N (ai λi=>ah (aA t i)) (bk x) k))) (aa Z ((cX N λi=>ah (aA t i))&&C (N<=71)&&iu N (ai λi=>ah (aA t i)) (aW x) k))) (aa (aa (aa (C (A (bE (ai λi=>ah (aA t i)) (aW x))=A (bE (ai λi=>ah (aA t i)) (aW x)))&&(C (A (bE (ai λi=>ah (aA t i)) (aW x))<=A (bE (ai λi=>ah (aA t i)) (aW x)))&&Z)) (C (A (bE (ai λi=>ah (aA t i)) (bk x))=A (bE (ai λi=>ah (aA t i)) (bk x)))&&(C (A (bE (ai λi=>ah (aA t i)) (bk x))<=A (bE (ai λi=>ah (aA t i)) (bk x)))&&Z))) (C (A (bE (ai λi=>ah (aA t i)) (bk x))=A (bE (ai λi=>ah (aA t i)) (bk x))))) (C (A (bE (ai λi=>ah (aA t i)) (bk x))+A (bE (ai λi=>ah (aA t i)) (aW x))<=2^38)))):=by kernel_rfl
def sH{t:Nat->aE}{k x:Nat}(h:(t x).used=Z):sS t k x=(x:Int)::(t x).un.map (2* ·):=by cases k<;>(unfold sS;rw[h];rfl)
def xu{t:Nat->aE}{x:Nat}(h:(t x).used=I):sS t 0 x=[]:=by unfold sS;rw[h];rfl
def xw{t:Nat->aE}{k x:Nat}(h:(t x).used=I):sS t (k+1) x=sS t k (x-2^k)++sS t k (x+2^k):=by rw[sS,h];rfl
def anI(n x:Nat):Bool:=match l8 7 x with
 |0=>bk ((x:Nat):Int)==-1&&aW ((x:Nat):Int)==-1
 |k+1=>bk ((x:Nat):Int)==((x-2^k:Nat):Int)&&aW ((x:Nat):Int)==((x+2^k:Nat):Int)&&decide (x-2^k<2*n-1)&&decide (x+2^k<2*n-1)&&l8 7 (x-2^k)==k&&l8 7 (x+2^k)==k&&decide (2^k<=x)
def NW:(bn.all λn=>(t8 (2*n-1)).all λx=>anI n x)=Z:=by decide+kernel
def vP{n x:Nat}(c:n∈bn)(a:x<2*n-1)(b:l8 7 x=0):bk (x:Int)=-1/\aW (x:Int)=-1:=by have h:=aaB.1 (aaB.1 NW n c) x (aaI.2 a);unfold anI at h;rw[b] at h;simpa using h
def mO{n x k:Nat}(g:n∈bn)(b:x<2*n-1)(f:l8 7 x=k+1):bk (x:Int)=((x-2^k:Nat):Int)/\aW (x:Int)=((x+2^k:Nat):Int)/\x-2^k<2*n-1/\x+2^k<2*n-1/\l8 7 (x-2^k)=k/\l8 7 (x+2^k)=k/\2^k<=x:=by have h:=aaB.1 (aaB.1 NW n g) x (aaI.2 b);unfold anI at h;rw[f] at h;simp only[No,afP,aac] at h;have⟨⟨⟨⟨⟨⟨e,d⟩,j⟩,i⟩,a⟩,l⟩,c⟩:=h;exact⟨e,d,j,i,a,l,c⟩
def Gj{N:Nat}{t:Nat->aE}(h:unB N t=Z){x:Nat}(a:x<N):(t x).un.length<=64/\∀u∈(t x).un,0<=u/\u<64:=by have g:=aaB.1 h x (aaI.2 a);simp only[No,aac,aaB] at g;exact g
def vW{N:Nat}{t:Nat->aE}{n:Nat}(d:unB N t=Z)(j:n∈bn)(hN:N=2*n-1):∀k x,x<N->l8 7 x=k->A (sS t k x)<=65*2^k:=by
 intro k
 induction k with
 |zero=>
  intro x c f
  cases h:(t x).used with
  |true=>rw[sH h];have:=(Gj d c).1;simp;omega
  |false=>rw[xu h];simp
 |succ k g=>
  intro x c f
  cases h:(t x).used with
  |true=>
   rw[sH h];have:=(Gj d c).1
   have:1<=2^(k+1):=Nat.one_le_two_pow
   simp;omega
  |false=>
   have⟨_,_,o,m,i,l,_⟩:=mO j (hN▸c) f
   rw[xw h,abA]
   have a:=g _ (by omega) i
   have b:=g _ (by omega) l
   rw[Nat.pow_succ];omega
def AD:∀f x,l8 f x<=f:=by
 intro f
 induction f with
 |zero=>intro x;exact aar _
 |succ f b=>intro x;unfold l8;split<;>(have:=b (x/2);omega)
def HB{l:pD}{j:Nat}(h:j<A l):(l.take j).map (2* ·)++[2*X l j 0]=(l.take (j+1)).map (2* ·):=by rw[List.take_add_one,aaQ h,List.map_append,dh h];rfl
section
variable {N n k:Nat} {t:Nat->aE} {x:Nat}
def aeZ(a:rN k)(hT:eo N t)(hu:unB N t=Z)(g:x<N)(h:(t x).used=Z):
  ak Q 148 [.p4 I N t,.t6 x] [] (.sl 0 0 0 1 (A (bE t x)) (A (bE t x)) I Z) [.b [.af .i64 (A (bE t x)) (bE t x)]]:=by
 have⟨hl,hr⟩:=Gj hu g
 have l:bE t x=(x:Int)::(t x).un.map (2* ·):=sH h
 have d:A (bE t x)=1+(t x).un.length:=by rw[l,agM,List.length_map];omega
 have f:=bW g
 rw[d,l]
 refine ak.mk (vs:=[.sl 0 0 0 1 (1+(t x).un.length) (1+(t x).un.length) I Z]) func148 rfl (s:=⟨ag 48 [(5,.sl 0 0 0 1 (1+(t x).un.length) (1+(t x).un.length) I Z),(33,.sl 0 0 0 1 (1+(t x).un.length) (1+(t x).un.length) I Z),(4,.sl 0 0 0 1 (1+(t x).un.length) (1+(t x).un.length) I Z)],[.b [.af .i64 (1+(t x).un.length) ((x:Int)::(t x).un.map (2* ·))]],Z⟩) ?_ (.inl rfl) rfl
 refine TrL.i6 (uy k a [(14,Z)]) (aar _) (CD ..) (by rw[aaq,f,Me g,show(t x).1=Z from h];rfl) (by decide) rfl ?_
 refine TrL.jn 2 (by decide) (by simp) ?_
 rw[show aJ 2 (aI f148)=.cond (.tmp 14) rvA .skip by kernel_rfl]
 refine Tr.cond_true rfl (Tr.eX ?_)
 have em:=anD N t x k a
 rw[aaq] at em
 refine TrL.bY (uy k a []) 60 2 _ 1 (aaH _) _ em (aeW ..) (by rw[aaq,f,Me g];rfl) (by decide) rfl ?_
 refine TrL.pre (s1:=Zn (t x).un ((x:Int)::((t x).un.take 0).map (2* ·)) (1+0) I (0:Int)) ?_ ?_ (by intro q;cases q)
 ·refine TrL.dV 2 (by decide) (s1:=⟨ag 48 [(5,.sl 0 0 0 1 (1+(t x).un.length) (1+(t x).un.length) I Z)],[.b [.af .i64 (1+(t x).un.length) ((x:Int)::(t x).un.map (2* ·))]],Z⟩) (Tr.loop 0 rfl (λj=>Zn (t x).un ((x:Int)::((t x).un.take j).map (2* ·)) (1+j) I (j:Int)) (t x).un.length (λj c=>?_) ?_) ?_
  ·have e:=anE (t x).un ((x:Int)::((t x).un.take j).map (2* ·)) (1+j) j k a
   have hg:=hr ((t x).un.getD j 0) (by rw[dh c];exact List.getElem_mem c)
   rw[aaq,dU (by omega) (by omega),dm (by omega),List.cons_append,HB c,show 1+j+1=1+(j+1) by omega] at e
   refine Tr.bg (uy k a [(24,Z)]) 60 _ 1 (aaH _) (s':=Zn (t x).un ((x:Int)::((t x).un.take (j+1)).map (2* ·)) (1+(j+1)) I ((j+1:Nat):Int)) _ e (aeX _ _ _ _ k a) ?_
   rw[g8 c,bW c,aaq,Me c,Me (aar (1+j)),Me (show((x:Int)::((t x).un.take j).map (2* ·)).length=1+j by simp;omega),Me (show 1+j+1<=2^38 by omega)]
   rfl
  ·have e:=anF (t x).un ((x:Int)::((t x).un.take (t x).un.length).map (2* ·)) (1+(t x).un.length) (t x).un.length k a
   rw[agW] at e
   rw[agW]
   exact Tr.bg (uy k a [(24,I)]) 60 _ 1 (aaH _) _ e (aeY (t x).un ((x:Int)::(t x).un.map (2* ·)) (1+(t x).un.length) (t x).un.length k a) (by rw[gV (aar _)];rfl)
  ·exact TrL.rest (uy k a []) 60 rfl rfl
 ·exact bG.akh (t:=(Zn (t x).un [(x:Int)] 1 Z 0).t) 5 (v:=.sl 0 0 0 1 1 1 Z Z) rfl (VE.Ym 0 0 0 1 1 1 Z)
def oF{N:Nat}(h:xW N=Z):∃n∈bn,N=2*n-1:=by have⟨n,a,q⟩:=afJ.1 h;exact⟨n,a,agm q⟩
def rP(c:unB N t=Z)(b:xW N=Z){y:Nat}(d:y<N)(a:l8 7 y<k):iu N t (y:Int) k=Z:=by unfold iu;rw[c,b,aaq,Me a,Me (show(y:Int)<N by omega),Me (show(0:Int)<=y by omega)];rfl
def Kc:∀k,rN k:=by
 intro k
 induction k with
 |zero=>
  intro N t x o h
  simp[iu] at h
 |succ k f=>
  intro N t x o h
  unfold iu at h
  simp only[No,aac] at h
  have⟨⟨⟨⟨g,ht⟩,h0⟩,a⟩,hk⟩:=h
  obtain⟨y,rfl⟩:=ac7 h0
  rw[aaq] at hk
  have a:y<N:=by omega
  have⟨n,m,hN⟩:=oF ht
  have hs:=cn m
  have c:=bW a
  cases l:(t y).used with
  |true=>exact aeZ f o g a l
  |false=>
   cases p:l8 7 y with
   |zero=>
    have r:bE t (y:Int)=[]:=by unfold bE;rw[aaq,p];exact xu l
    rw[r]
    refine ak.rz (aP (uy k f [(14,I),(40,Z)]) 60 func148 (anG N t y k f) ?_ rfl) .i64 I Z
    rw[aaq,c,Me a,show(t y).1=I from l,(vP m (hN▸a) p).1,Me (show(0:Int)<=y by omega),Me (show(y:Int)<64 by omega)]
    rfl
   |succ j=>
    have⟨h1,h2,h3,h4,s,h6,h7⟩:=mO m (hN▸a) p
    have r:bE t (y:Int)=bE t ((y-2^j:Nat):Int)++bE t ((y+2^j:Nat):Int):=by
     unfold bE;rw[aaq,aaq,aaq,p,s,h6];exact xw l
    have l1:=vW g m hN j (y-2^j) (by omega) s
    have l2:=vW g m hN j (y+2^j) (by omega) h6
    have hj:2^j<=2^7:=Nat.pow_le_pow_right (by decide) (by have:=AD 7 y;omega)
    have e1:bE t ((y-2^j:Nat):Int)=sS t j (y-2^j):=by unfold bE;rw[aaq,s]
    have e2:bE t ((y+2^j:Nat):Int)=sS t j (y+2^j):=by unfold bE;rw[aaq,h6]
    have hok:cX N (λi=>ah (aA t i))=Z:=bU o
    have e:=anH N t y k f
    rw[h1,h2] at e
    rw[r,abA]
    refine ak.yY (v:=.sl 0 0 0 1 (A (bE t ((y-2^j:Nat):Int))+A (bE t ((y+2^j:Nat):Int))) (A (bE t ((y-2^j:Nat):Int))+A (bE t ((y+2^j:Nat):Int))) I Z) (h1:=[.b [.af .i64 (A (bE t ((y-2^j:Nat):Int))+A (bE t ((y+2^j:Nat):Int))) (bE t ((y-2^j:Nat):Int)++bE t ((y+2^j:Nat):Int))],.b [.af .i64 (A (bE t ((y+2^j:Nat):Int))) (bE t ((y+2^j:Nat):Int))]]) [0] ?_ rfl
    refine ak.bZ (uy k f [(14,I),(40,I)]) func148 (e.trans ?_)
    have r1:iu N (ai λi=>ah (aA t i)) ((y-2^j:Nat):Int) k=Z:=rP g ht (by omega) (by omega)
    have r2:iu N (ai λi=>ah (aA t i)) ((y+2^j:Nat):Int) k=Z:=rP g ht (by omega) (by omega)
    have q:∀x,bE (ai λi=>ah (aA t i)) x=bE t x:=λ_=>rfl
    rw[aaq,c,Me a,show(t y).1=I from l,Me (show(0:Int)<=y by omega),Me (show(y:Int)<64 by omega),hok,Me o.le,r1,r2,aaS (show¬((y-2^j:Nat):Int)<0 by omega),q,q]
    rw[Me (aar _),Me (aar _),Me (Eq.refl (A (bE t ((y-2^j:Nat):Int)))),Me (Eq.refl (A (bE t ((y+2^j:Nat):Int)))),Me (show(bE t ((y-2^j:Nat):Int)).length+(bE t ((y+2^j:Nat):Int)).length<=2^38 by rw[e1,e2];omega)]
    rfl
end
def Gd(b:Bool)(l:List (Nat×Bool)):cu:=mk [JC b,avY 8 (Kc 8)] [] (uT l)
def iO(b:Bool)(l:List (Nat×Bool)):aq Q (Gd b l):=au _ aN.nil _ _
def aC4(N:Nat)(t:Nat->aE) x:(aV Q (Gd Z [(6,Z)]) 60 f105 [.p4 I N t,.t6 x] []).v3=E (.nl (.slice Y 0 0),aa Z (C (x<0))):=by kernel_rfl
def aC5(N:Nat)(t:Nat->aE) x:(aV Q (Gd Z [(6,I),(11,Z)]) 60 f105 [.p4 I N t,.t6 x] []).v3=E (.nl (.slice Y 0 0),aa (aa Z !C (x<0)) (C (x>=(N:Int)))):=by kernel_rfl
def aC6(N:Nat)(t:Nat->aE) x:(aV Q (Gd I [(6,I),(11,I)]) 60 f105 [.p4 I N t,.t6 x] []).v3=E (.nl (.slice Y 0 0),aa (aa (aa Z !C (x<0)) !C (x>=(N:Int))) (aa Z ((cX N λi=>ah (aA t i))&&C (N<=71)&&bq N (ai λi=>ah (aA t i))==I))):=by kernel_rfl
def aC7(N:Nat)(t:Nat->aE) x:(aV Q (Gd Z [(6,I),(11,I)]) 60 f105 [.p4 I N t,.t6 x] [])=E (.sl 0 0 0 1 (A (bE t x)) (A (bE t x)) I Z,[.b [.af .i64 (A (bE t x)) (bE t x)]],aa (aa (aa (aa Z !C (x<0)) !C (x>=(N:Int))) (aa Z ((cX N λi=>ah (aA t i))&&C (N<=71)&&bq N (ai λi=>ah (aA t i))==Z))) (aa Z ((cX N λi=>ah (aA t i))&&C (N<=71)&&iu N (ai λi=>ah (aA t i)) x 8))):=by kernel_rfl
def noL(l:List (Nat×Bool)):cu:=mk (P:=Q) [] [] (uT l)
def uz(l:List (Nat×Bool)):aq Q (noL l):=au _ aN.nil _ _
def mS(k:Nat):Prop:=∀N(t:Nat->aE)x,eo N t->iu N t x k=Z->
 ak Q 74 [.p4 I N t,.t6 x] [] (.sl 0 0 0 1 (A (bE t x)) (A (bE t x)) I Z) [.b [.af .i64 (A (bE t x)) (bE t x)]]
def agp(k:Nat)(d:mS k):aK Q:=.val 74 _ func74 (by decide) rfl Z 1 (aeU k) λvs v new e=>by
 unfold aeU at e
 split at e
 ·simp only[Mf,aad,No,aac] at e
  have⟨rfl,rfl,⟨b,c⟩,f⟩:=e
  exact ak.conv (d _ _ _ (eo.of b c) f) ⟨VE.kM b,VE.refl _,trivial⟩ trivial (VE.refl _) ⟨PE.refl _,trivial⟩
 ·cases e
def qvC(k:Nat)(a:mS k)(l:List (Nat×Bool)):cu:=mk [mQ,agp k a] [] (uT l)
def uA(k:Nat)(a:mS k)(l:List (Nat×Bool)):aq Q (qvC k a l):=au _ aN.nil _ _
def qvB:Code:=aI f74
def qvA:Code:=cdA (aJ 2 qvB)
def qv0(N:Nat)(t:Nat->aE)(x:Int):St:=⟨ag 53 [(0,.p4 I N t),(1,.t6 x),(13,.bool Z)],[],Z⟩
def Zp(N:Nat)(t:Nat->aE)(x:Int)(xs:pD)(n:Nat)(ex:Bool)(j:Int):St:=⟨ag 53 [(0,.p4 I N t),(1,.t6 x),(5,.sl 0 0 0 1 n n ex Z),(6,.t6 j)],[.b [.af .i64 n xs]],Z⟩
def CE(N:Nat)(t:Nat->aE)(x:Int)(k:Nat)(a:mS k):aD (az [0,1,13] 0 ((bh Q (qvC k a [(13,Z)]) 60 0 2 (aH qvB) ⟨aU f74.ntmps [.p4 I N t,.t6 x],[],Z⟩).x3))=(E (.normal,(qv0 N t x).t,[]),(aa (aa (aa Z (bC x N)) (Z&&(C (O x<N)&&Z))) (t (O x)).1)):=by kernel_rfl
def HC(N:Nat)(t:Nat->aE)(x:Int)(k:Nat)(a:mS k):aD (az [0,1,5,6] 1 ((bh Q (qvC k a []) 60 0 2 (aH qvA) (qv0 N t x)).x3))=(E (.normal,(Zp N t x [x] 1 Z 0).t,(Zp N t x [x] 1 Z 0).h),(Z)):=by kernel_rfl
def anL N t x k ih:=bu (HC N t x k ih)
def ae1 N t x k ih:=bz (HC N t x k ih)
def HD(N:Nat)(t:Nat->aE)(x:Int)(xs:pD)(n:Nat)(j:Int)(k:Nat)(b:mS k):aD (az [0,1,5,6] 1 (exec Q (qvC k b [(23,Z)]) 60 0 (aj (aj (aJ 2 qvA))) (Zp N t x xs n I j)))=(E (.normal,(Zp N t x (xs++[i64.wrap (2*(t (O x)).un.getD (O j) 0)]) (n+1) I (i64.wrap (j+1))).t,(Zp N t x (xs++[i64.wrap (2*(t (O x)).un.getD (O j) 0)]) (n+1) I (i64.wrap (j+1))).h),(aa (aa (aa (aa (aa (aa (aa (aa Z (bC x N)) (Z&&(C (O x<N)&&Z))) (C (j<((t (O x)).un.length:Int)))) (bC x N)) (Z&&(C (O x<N)&&Z))) (bC j (t (O x)).un.length)) (C (O j<(t (O x)).un.length))) (aa (aa (aa (aa (C (A ((t9 1 0).set 0 (i64.wrap (2*(t x.toNat).un.getD j.toNat 0)))=1)&&Z) (C (A xs=n)&&(C (n<=n)&&Z))) (C (A xs=n))) Z) (C (n+1<=2^38))))):=by kernel_rfl
def anM N t x xs n j k ih:=bu (HD N t x xs n j k ih)
def ae2 N t x xs n j k ih:=bz (HD N t x xs n j k ih)
def HE(N:Nat)(t:Nat->aE)(x:Int)(xs:pD)(n:Nat)(j:Int)(k:Nat)(a:mS k):aD (az [5] 1 (exec Q (qvC k a [(23,I)]) 60 0 (aj (aj (aJ 2 qvA))) (Zp N t x xs n I j)))=(E (.exit 0,ag 53 [(5,.sl 0 0 0 1 n n I Z)],[.b [.af .i64 n xs]]),(aa (aa (aa Z (bC x N)) (Z&&(C (O x<N)&&Z))) !C (j<((t (O x)).un.length:Int)))):=by kernel_rfl
def anN N t x xs n j k ih:=bu (HE N t x xs n j k ih)
def ae3 N t x xs n j k ih:=bz (HE N t x xs n j k ih)
def anO(N:Nat)(t:Nat->aE)(x:Int)(k:Nat)(a:mS k):(aV Q (qvC k a [(13,I),(45,Z)]) 60 f74 [.p4 I N t,.t6 x] []).v3=E (.nl (.slice Y 0 0),aa (aa (aa (aa (aa Z (bC x N)) (Z&&(C (O x<N)&&Z))) !(t (O x)).1) (aa Z (C (0<=x)&&C (x<64)))) (C (bk x<0))):=by kernel_rfl
def anP(N:Nat)(t:Nat->aE)(x:Int)(k:Nat)(a:mS k):(aV Q (qvC k a [(13,I),(45,I)]) 60 f74 [.p4 I N t,.t6 x] [])=E (.sl 0 0 0 1 (A (bE t (bk x))+A (bE t (aW x))) (A (bE t (bk x))+A (bE t (aW x))) I Z,[.b [.af .i64 (A (bE t (bk x))+A (bE t (aW x))) (bE t (bk x)++bE t (aW x))],.b [.af .i64 (A (bE t (aW x))) (bE t (aW x))]],aa (aa (aa (aa (aa (aa (aa (aa Z (bC x N)) (Z&&(C (O x<N)&&Z))) !(t (O x)).1) (aa Z (C (0<=x)&&C (x<64)))) !C (bk x<0)) (aa Z ((cX N λi=>ah (aA t i))&&C (N<=71)&&iu N (ai λi=>ah (aA t i)) (bk x) k))) (aa Z ((cX N λi=>ah (aA t i))&&C (N<=71)&&iu N (ai λi=>ah (aA t i)) (aW x) k))) (aa (aa (aa (C (A (bE (ai λi=>ah (aA t i)) (aW x))=A (bE (ai λi=>ah (aA t i)) (aW x)))&&(C (A (bE (ai λi=>ah (aA t i)) (aW x))<=A (bE (ai λi=>ah (aA t i)) (aW x)))&&Z)) (C (A (bE (ai λi=>ah (aA t i)) (bk x))=A (bE (ai λi=>ah (aA t i)) (bk x)))&&(C (A (bE (ai λi=>ah (aA t i)) (bk x))<=A (bE (ai λi=>ah (aA t i)) (bk x)))&&Z))) (C (A (bE (ai λi=>ah (aA t i)) (bk x))=A (bE (ai λi=>ah (aA t i)) (bk x))))) (C (A (bE (ai λi=>ah (aA t i)) (bk x))+A (bE (ai λi=>ah (aA t i)) (aW x))<=2^38)))):=by kernel_rfl
section
variable {N n k:Nat} {t:Nat->aE} {x:Nat}
def ae4(a:mS k)(hT:eo N t)(hu:unB N t=Z)(g:x<N)(h:(t x).used=Z):
  ak Q 74 [.p4 I N t,.t6 x] [] (.sl 0 0 0 1 (A (bE t x)) (A (bE t x)) I Z) [.b [.af .i64 (A (bE t x)) (bE t x)]]:=by
 have⟨hl,hr⟩:=Gj hu g
 have l:bE t x=(x:Int)::(t x).un.map (2* ·):=sH h
 have f:A (bE t x)=1+(t x).un.length:=by rw[l,agM,List.length_map];omega
 have c:=bW g
 rw[f,l]
 refine ak.mk (vs:=[.sl 0 0 0 1 (1+(t x).un.length) (1+(t x).un.length) I Z]) func74 rfl (s:=⟨ag 53 [(5,.sl 0 0 0 1 (1+(t x).un.length) (1+(t x).un.length) I Z),(38,.sl 0 0 0 1 (1+(t x).un.length) (1+(t x).un.length) I Z),(4,.sl 0 0 0 1 (1+(t x).un.length) (1+(t x).un.length) I Z)],[.b [.af .i64 (1+(t x).un.length) ((x:Int)::(t x).un.map (2* ·))]],Z⟩) ?_ (.inl rfl) rfl
 refine TrL.i6 (uA k a [(13,Z)]) (aar _) (CE ..) (by rw[aaq,c,Me g,show(t x).1=Z from h];rfl) (by decide) rfl ?_
 refine TrL.jn 2 (by decide) (by simp) ?_
 rw[show aJ 2 (aI f74)=.cond (.tmp 13) qvA .skip by kernel_rfl]
 refine Tr.cond_true rfl (Tr.eX ?_)
 have em:=anL N t x k a
 refine TrL.bY (uA k a []) 60 2 _ 1 (aaH _) _ em (ae1 ..) rfl (by decide) rfl ?_
 refine TrL.pre (s1:=Zp N t (x:Int) ((x:Int)::((t x).un.take 0).map (2* ·)) (1+0) I (0:Int)) ?_ ?_ (by intro q;cases q)
 ·refine TrL.dV 2 (by decide) (s1:=⟨ag 53 [(5,.sl 0 0 0 1 (1+(t x).un.length) (1+(t x).un.length) I Z)],[.b [.af .i64 (1+(t x).un.length) ((x:Int)::(t x).un.map (2* ·))]],Z⟩) (Tr.loop 0 rfl (λj=>Zp N t (x:Int) ((x:Int)::((t x).un.take j).map (2* ·)) (1+j) I (j:Int)) (t x).un.length (λj d=>?_) ?_) ?_
  ·have e:=anM N t (x:Int) ((x:Int)::((t x).un.take j).map (2* ·)) (1+j) j k a
   have hg:=hr ((t x).un.getD j 0) (by rw[dh d];exact List.getElem_mem d)
   rw[aaq,aaq,dU (by omega) (by omega),dm (by omega),List.cons_append,HB d,show 1+j+1=1+(j+1) by omega] at e
   refine Tr.bg (uA k a [(23,Z)]) 60 _ 1 (aaH _) (s':=Zp N t (x:Int) ((x:Int)::((t x).un.take (j+1)).map (2* ·)) (1+(j+1)) I ((j+1:Nat):Int)) _ e (ae2 _ _ _ _ _ _ k a) ?_
   rw[aaq,aaq,c,Me g,g8 d,bW d,Me d,Me (aar (1+j)),Me (show((x:Int)::((t x).un.take j).map (2* ·)).length=1+j by simp;omega),Me (show 1+j+1<=2^38 by omega)]
   rfl
  ·have e:=anN N t (x:Int) ((x:Int)::((t x).un.take (t x).un.length).map (2* ·)) (1+(t x).un.length) (t x).un.length k a
   rw[agW] at e
   rw[agW]
   exact Tr.bg (uA k a [(23,I)]) 60 _ 1 (aaH _) _ e (ae3 N t (x:Int) ((x:Int)::(t x).un.map (2* ·)) (1+(t x).un.length) (t x).un.length k a) (by rw[aaq,c,Me g,gV (aar _)];rfl)
  ·exact TrL.rest (uA k a []) 60 rfl rfl
 ·exact bG.akh (t:=(Zp N t (x:Int) [(x:Int)] 1 Z 0).t) 5 (v:=.sl 0 0 0 1 1 1 Z Z) rfl (VE.Ym 0 0 0 1 1 1 Z)
def Gs:∀k,mS k:=by
 intro k
 induction k with
 |zero=>
  intro N t x o h
  simp[iu] at h
 |succ k f=>
  intro N t x o h
  unfold iu at h
  simp only[No,aac] at h
  have⟨⟨⟨⟨g,ht⟩,h0⟩,a⟩,hk⟩:=h
  obtain⟨y,rfl⟩:=ac7 h0
  rw[aaq] at hk
  have a:y<N:=by omega
  have⟨n,m,hN⟩:=oF ht
  have hs:=cn m
  have c:=bW a
  cases l:(t y).used with
  |true=>exact ae4 f o g a l
  |false=>
   cases p:l8 7 y with
   |zero=>
    have r:bE t (y:Int)=[]:=by unfold bE;rw[aaq,p];exact xu l
    rw[r]
    refine ak.rz (aP (uA k f [(13,I),(45,Z)]) 60 func74 (anO N t y k f) ?_ rfl) .i64 I Z
    rw[aaq,c,Me a,show(t y).1=I from l,(vP m (hN▸a) p).1,Me (show(0:Int)<=y by omega),Me (show(y:Int)<64 by omega)]
    rfl
   |succ j=>
    have⟨h1,h2,h3,h4,s,h6,h7⟩:=mO m (hN▸a) p
    have r:bE t (y:Int)=bE t ((y-2^j:Nat):Int)++bE t ((y+2^j:Nat):Int):=by
     unfold bE;rw[aaq,aaq,aaq,p,s,h6];exact xw l
    have l1:=vW g m hN j (y-2^j) (by omega) s
    have l2:=vW g m hN j (y+2^j) (by omega) h6
    have hj:2^j<=2^7:=Nat.pow_le_pow_right (by decide) (by have:=AD 7 y;omega)
    have e1:bE t ((y-2^j:Nat):Int)=sS t j (y-2^j):=by unfold bE;rw[aaq,s]
    have e2:bE t ((y+2^j:Nat):Int)=sS t j (y+2^j):=by unfold bE;rw[aaq,h6]
    have hok:cX N (λi=>ah (aA t i))=Z:=bU o
    have e:=anP N t y k f
    rw[h1,h2] at e
    rw[r,abA]
    refine ak.yY (v:=.sl 0 0 0 1 (A (bE t ((y-2^j:Nat):Int))+A (bE t ((y+2^j:Nat):Int))) (A (bE t ((y-2^j:Nat):Int))+A (bE t ((y+2^j:Nat):Int))) I Z) (h1:=[.b [.af .i64 (A (bE t ((y-2^j:Nat):Int))+A (bE t ((y+2^j:Nat):Int))) (bE t ((y-2^j:Nat):Int)++bE t ((y+2^j:Nat):Int))],.b [.af .i64 (A (bE t ((y+2^j:Nat):Int))) (bE t ((y+2^j:Nat):Int))]]) [0] ?_ rfl
    refine ak.bZ (uA k f [(13,I),(45,I)]) func74 (e.trans ?_)
    have r1:iu N (ai λi=>ah (aA t i)) ((y-2^j:Nat):Int) k=Z:=rP g ht (by omega) (by omega)
    have r2:iu N (ai λi=>ah (aA t i)) ((y+2^j:Nat):Int) k=Z:=rP g ht (by omega) (by omega)
    have q:∀x,bE (ai λi=>ah (aA t i)) x=bE t x:=λ_=>rfl
    rw[aaq,c,Me a,show(t y).1=I from l,Me (show(0:Int)<=y by omega),Me (show(y:Int)<64 by omega),hok,Me o.le,r1,r2,aaS (show¬((y-2^j:Nat):Int)<0 by omega),q,q]
    rw[Me (aar _),Me (aar _),Me (Eq.refl (A (bE t ((y-2^j:Nat):Int)))),Me (Eq.refl (A (bE t ((y+2^j:Nat):Int)))),Me (show(bE t ((y-2^j:Nat):Int)).length+(bE t ((y+2^j:Nat):Int)).length<=2^38 by rw[e1,e2];omega)]
    rfl
def ym(N:Nat)(t:Nat->aE)(x:Int):pD:=bif C (0<=x)&&C (x<N)&&bq N t then bE t x else[]
def jw(d:eo N t)(h:bq N t=Z):∃n∈bn,aY N=(n:Int)/\N=2*n-1/\∀x,x<N->iF t n x=Z:=by unfold bq at h;simp only[No,af9] at h;have⟨n,e,a,c⟩:=lK d.le h.1;refine⟨n,e,a,c,λx b=>?_⟩;have:=aaB.1 h.2.1 x (aaI.2 b);rwa [a,aaq] at this
def V9{x}{un:pD}{j:Nat}(h:HW t x n un j=Z):QK un j<X un j 0/\fB x<=X un j 0/\X un j 0<=jB x:=by unfold HW at h;simp only[No,af9,agX] at h;omega
def Az{x:Nat}(i:n∈bn)(m:x<2*n-1)(h:gq t x n=Z):(∀u∈(t x).un,0<=u/\u<n)/\(t x).un.length<=n:=by
 unfold gq at h
 simp only[No,aaq] at h
 have⟨_,h⟩:=h
 have q:bf (x:Int) n=Z:=afJ.2 ⟨n,i,by simp;omega⟩
 have⟨o,l⟩:=yQ q
 have r:∀j,j<(t x).un.length->QK (t x).un j<(t x).un.getD j 0/\0<=(t x).un.getD j 0/\(t x).un.getD j 0<n:=λj c=>by
  have:=V9 (aaB.1 h j (aaI.2 c))
  omega
 refine⟨λu e=>?_,?_⟩
 ·obtain⟨j,c,rfl⟩:=List.getElem_of_mem e
  have:=r j c
  rw[dh c] at this
  exact this.2
 ·have g:∀j,j<(t x).un.length->(j:Int)<=(t x).un.getD j 0:=by
   intro j
   induction j with
   |zero=>intro c;exact(r 0 c).2.1
   |succ j f=>
    intro c
    have a:=f (by omega)
    have b:(t x).un.getD j 0<(t x).un.getD (j+1) 0:=(r (j+1) c).1
    omega
  cases p:(t x).un.length with
  |zero=>omega
  |succ k=>
   have a:=g k (by omega)
   have b:=r k (by omega)
   omega
def AB(f:eo N t)(h:bq N t=Z):unB N t=Z/\xW N=Z:=by
 have⟨n,d,j,hN,i⟩:=jw f h
 have l:=cn d
 refine⟨aaB.2 λx a=>?_,afJ.2 ⟨n,d,Me hN⟩⟩
 have a:=aaI.1 a
 have g:=i x a
 have c:(∀u∈(t x).un,0<=u/\u<n)/\(t x).un.length<=n:=by
  unfold iF at g
  cases b:(t x).used with
  |false=>
   rw[b] at g
   have:(t x).un=[]:=by
    unfold tn rH at g
    simp only[aiW,aja,No,aac] at g
    exact g.2
   rw[this];exact⟨λ_ q=>by simp at q,aaH _⟩
  |true=>
   rw[b] at g
   cases e:(x%2==0) with
   |true=>
    rw[e] at g
    have:(t x).un=[]:=by
     unfold Om at g
     simp only[Bool.not_true,ajB,aja,No,afP] at g
     have:=g.1.2
     exact abJ.1 (by omega)
    rw[this];exact⟨λ_ q=>by simp at q,aaH _⟩
   |false=>
    rw[e] at g
    exact Az d (hN▸a) g
 simp only[No,aac,aaB]
 refine⟨by omega,λu b=>?_⟩
 have:=c.1 u b
 omega
def Gt(d:eo N t)(h:bq N t=Z){x:Int}(b:0<=x)(h1:x<N):iu N t x 8=Z:=by have⟨c,a⟩:=AB d h;obtain⟨y,rfl⟩:=ac7 b;exact rP c a (by omega) (by have:=AD 7 y;omega)
def Bu{x}(d:eo N t):ak Q 105 [.p4 I N t,.t6 x] [] (.ro Z .i64 (ym N t x)) []:=by
 have b:cX N (λi=>ah (aA t i))=Z:=bU d
 have nil:ak Q 105 [.p4 I N t,.t6 x] [] (.nl (.slice Y 0 0)) []->ak Q 105 [.p4 I N t,.t6 x] [] (.ro Z .i64 []) []:=λg=>ak.conv g ⟨VE.refl _,VE.refl _,trivial⟩ trivial (VE.xV Z .i64) trivial
 unfold ym
 by_cases c:x<0
 ·rw[aaS (show¬0<=x by omega)]
  exact nil (aP (iO _ _) 60 func105 (aC4 N t x) (by rw[Me c];rfl) rfl)
 ·by_cases f:x>=N
  ·rw[aaS (show¬x<(N:Int) by omega),ag8,ahm]
   exact nil (aP (iO _ _) 60 func105 (aC5 N t x) (by rw[aaS c,Me f];rfl) rfl)
  ·rw[Me (by omega),Me (by omega)]
   cases e:bq N t with
   |false=>exact nil (aP (iO _ _) 60 func105 (aC6 N t x) (by rw[aaS c,aaS f,b,Me d.le,show bq N (ai λi=>ah (aA t i))=I from e];rfl) rfl)
   |true=>
    have hr:iu N (ai λi=>ah (aA t i)) x 8=Z:=Gt d e (by omega) (by omega)
    refine ak.sn (ex:=I) (wh:=Z) (ak.bZ (iO Z [(6,I),(11,I)]) func105 ((aC7 N t x).trans ?_)) rfl
    rw[aaS c,aaS f,b,Me d.le,show bq N (ai λi=>ah (aA t i))=Z from e,hr]
    rfl
def Gm:aK Q:=.val 105 _ func105 (by decide) rfl Z 0 (λvs=>match vs with
 | [.aO I 99 N g,.int .i64 x]=>E (.ro Z .i64 (ym N (ai g) x),[],cX N g&&C (N<=71))
 |_=>Y) λvs v new e=>by
 split at e
 ·simp only[Mf,aad,No,aac] at e;have⟨rfl,rfl,b,c⟩:=e;exact ak.conv (Bu (eo.of b c)) ⟨VE.kM b,VE.refl _,trivial⟩ trivial (VE.refl _) trivial
 ·cases e
