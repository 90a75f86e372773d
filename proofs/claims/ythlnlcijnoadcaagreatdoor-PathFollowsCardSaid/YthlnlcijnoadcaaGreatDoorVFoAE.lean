/- This file proves lemmas for the last one. Conditions: those in them. -/
import Derived.Test.YthlnlcijnoadcaaGreatDoorVFoO
import Derived.WalkKit
import Derived.ProofKit
noncomputable section
open Bool renaming true->Z,false->I
open Option renaming some->E,none->Y
open Decidable renaming decide->C
open List renaming length->A,getD->X,replicate->t9,range->t8
open Int renaming toNat->O
open Go.Proofs.Tryz
open Go.Proofs.Tryz renaming prog->Q
open Go.IntKind (i64)
set_option linter.all false
set_option maxRecDepth 100000
namespace Go.Proofs.YthlnlcijnoadcaaGreatDoor
namespace Fo
open Sy Sh La Re Tr Pa Mk Wi
def Iw{b c N}(h:∀i,i<N->b i=c i){α}(vF:Nat->α)(vE:α):cR b N vF vE=cR c N vF vE:=by
 unfold cR
 have:cV b N=cV c N:=by
  cases g:cV b N with
  |none=>
   have n:=dz g
   cases a:cV c N with
   |none=>rfl
   |some i=>have⟨d,e,_⟩:=dr a;rw[<-h i d,n i d] at e;cases e
  |some i=>
   have⟨f,k,l⟩:=dr g
   cases a:cV c N with
   |none=>have:=dz a i f;rw[<-h i f,k] at this;cases this
   |some j=>
    have⟨d,e,m⟩:=dr a
    rcases Nat.lt_trichotomy i j with q|q|q
    ·have:=m i q;rw[<-h i f,k] at this;cases this
    ·rw[q]
    ·have:=l j q;rw[h j d,e] at this;cases this
 rw[this]
section
variable {N:Nat} {t:Nat->aE} {i own:Int} {s:pD}
def mg:A (fG (·.1) N t i)=cT N t i:=by simp[fG,kZ]
def Ix{k}(a:k<cT N t i):X (fG (·.1) N t i) k 0=(j8 N t i k).1:=by simp[fG,kZ,List.getD,a]
def afG:lwV own (fG (·.1) N t i)=gW N t i own:=by unfold lwV gW OH;rw[mg];exact Iw (λk a=>by rw[Ix a]) _ _
def wg k:A ((fG (·.1) N t i).drop k)=cT N t i-k:=by rw[afj,mg]
def Ia{k j}(a:j<cT N t i-k):X ((fG (·.1) N t i).drop k) j 0=(Kk k (j8 N t i) j).1:=by have:=Ix (N:=N) (t:=t) (i:=i) (k:=k+j) (by omega);rw[abQ,afO, <-abQ,this];show(j8 N t i (k+j)).1=(j8 N t i (j+k)).1;rw[Nat.add_comm]
def OP{b c n}(h:∀i,i<n->b i=c i):(t8 n).all b=(t8 n).all c:=by rw[Bool.eq_iff_iff,aaB,aaB];exact⟨λg i a=>by rw[<-h i (aaI.1 a)];exact g i a,λg i a=>by rw[h i (aaI.1 a)];exact g i a⟩
def afH:(t8 (A ((fG (·.1) N t i).drop (gW N t i own).toNat))).all (OO t ((fG (·.1) N t i).drop (O (gW N t i own))) s)=frQ N t i own s:=by unfold frQ;rw[wg];exact OP λj a=>by unfold OO ZG;rw[Ia a]
def afI(b:inT N (cT N t i) (j8 N t i)=Z) k:inW N ((fG (·.1) N t i).drop k)=Z:=by refine aaB.2 λj a=>?_;have a:=aaI.1 a;rw[wg] at a;rw[Ia a];exact aaB.1 b (j+k) (aaI.2 (by omega))
def SQ(f:eo N t)(h:iJ N t i=0)(e:lO N t own=Z):lwQ N (fG (·.1) N t i) own=Z:=by
 have⟨d,_,m⟩:=fF f h
 obtain⟨_,_,n,j,b,o,rfl,g,hN,_⟩:=Bw f h
 have l:=cn b
 unfold lO at e
 simp only[No,aac] at e
 refine afJ.2 ⟨n,b,?_⟩
 rw[g] at d
 have a:(t8 (A (fG (·.1) N t (j:Int)))).all (λk=>Tr.bf (X (fG (·.1) N t (j:Int)) k 0) n)=Z:=by
  rw[mg]
  exact aaB.2 λk c=>by
   rw[Ix (aaI.1 c)]
   exact aaB.1 d k c
 rw[a,g,Me (rfl:(n:Int)=n),Me (show(0:Int)<=own by omega),Me (by omega)]
 rfl
def aan(a:eo N t)(b:bq N t=eH N t)(h:iJ N t i=1):ak Q 63 [.p4 I N t,.t6 i,.t6 own,.sM s] [] (tE 3) []:=
 aP (m9 1 Z Z []) 60 func63 (ayZ N t i own s) (by rw[show cX N (λi=>ah (aA t i))=Z from bU a,Me a.le,show(ai λi=>ah (aA t i))=t from rfl,b,h];simp[aa]) rfl
def aao(a:eo N t)(b:bq N t=eH N t)(h:iJ N t i=2):ak Q 63 [.p4 I N t,.t6 i,.t6 own,.sM s] [] (tE 9) []:=
 aP (m9 2 Z Z []) 60 func63 (ay0 N t i own s) (by rw[show cX N (λi=>ah (aA t i))=Z from bU a,Me a.le,show(ai λi=>ah (aA t i))=t from rfl,b,h];simp[aa]) rfl
def aah(a:eo N t)(b:bq N t=eH N t)(h:iJ N t i=0)(c:lO N t own=I):ak Q 63 [.p4 I N t,.t6 i,.t6 own,.sM s] [] (tE 9) []:=
 aP (m9 0 I Z []) 60 func63 (ay1 N t i own s) (by rw[show cX N (λi=>ah (aA t i))=Z from bU a,Me a.le,show(ai λi=>ah (aA t i))=t from rfl,b,h,c];simp[aa]) rfl
def aai(a:eo N t)(b:bq N t=eH N t)(h:iJ N t i=0)(c:lO N t own=Z)(d:own=i):ak Q 63 [.p4 I N t,.t6 i,.t6 own,.sM s] [] (tE 9) []:=
 aP (m9 0 Z Z [(36,Z)]) 60 func63 (ay2 N t i own s) (by rw[show cX N (λi=>ah (aA t i))=Z from bU a,Me a.le,show(ai λi=>ah (aA t i))=t from rfl,b,h,c,afP.2 d];simp[aa]) rfl
def aaj(a:eo N t)(d:bq N t=eH N t)(h:iJ N t i=0)(b:lO N t own=Z)(e:own≠i)(c:gW N t i own<0):ak Q 63 [.p4 I N t,.t6 i,.t6 own,.sM s] [] (tE 10) []:=
 aP (m9 0 Z Z [(36,I),(44,Z)]) 60 func63 (ay3 N t i own s) (by have⟨_,_,f⟩:=fF a h;rw[show cX N (λi=>ah (aA t i))=Z from bU a,Me a.le,show(ai λi=>ah (aA t i))=t from rfl,d,h,b,ahR.2 e,mg,SQ a h b,afG,Me c,Me (by omega)];simp[aa]) rfl
def EU(a:eo N t)(f:bq N t=eH N t)(h:iJ N t i=0)(c:lO N t own=Z)(j:own≠i)(k:0<=gW N t i own) x s'(g:TrL Q Y 0 ((aH Iv).drop 9) ⟨SM N t (fG (·.1) N t i) (gW N t i own),[.b [.t5 s],.b [.t5 cG]],Z⟩ x s'):
  TrL Q Y 0 (aH Iv) ⟨aU f63.ntmps [.p4 I N t,.t6 i,.t6 own,.sM s],[],Z⟩ x s':=by have⟨_,_,l⟩:=fF a h;have e:=aif N t i own s;have d:=SN N t i own s;rw[show(ai λi=>ah (aA t i))=t from rfl,afG] at e d;refine TrL.bY (m9 0 Z Z [(36,I),(44,I)]) 60 9 _ 2 (aaH _) _ e d ?_ (by decide) rfl g;rw[show cX N (λi=>ah (aA t i))=Z from bU a,Me a.le,f,h,c,ahR.2 j,mg,SQ a h c,aaS (show¬gW N t i own<0 by omega),Me (by omega)];simp[aa]
def KK:(aH Iv).drop 9≠[]:=by
 intro q;have:A ((aH Iv).drop 9)=2:=by kernel_rfl
 rw[q] at this;cases this
def SR ws iv:qE ws (E (SV.int IntKind.i64 iv)) Y (O iv) (A ws)=ws.drop (O iv):=rfl
def aak(c:eo N t)(g:bq N t=eH N t)(h:iJ N t i=0)(m:lO N t own=Z)(j:own≠i)(e:0<=gW N t i own)(f:A s=32)(k:frQ N t i own s=I):ak Q 63 [.p4 I N t,.t6 i,.t6 own,.sM s] [] (tE 2) []:=by have⟨_,l,w3⟩:=fF c h;have d:=CT own (cT N t i) (j8 N t i);refine ak.yY (v:=tE 2) (h1:=[.b [.t5 s],.b [.t5 cG]]) [] ?_ rfl;refine ak.mk func63 rfl (s:=⟨ag 56 [(8,dx),(9,dx),(10,.r5 1),(11,.t6 2)],[.b [.t5 s],.b [.t5 cG]],Z⟩) (vs:=[dx,dx,.sM cG,.t6 2]) (EU c g h m j e _ _ ?_) (.inl rfl) rfl;refine TrL.i8 (m9 0 Z I []) (aaH _) (SP ..) ?_ KK;have a:gW N t i own<=(cT N t i:Int):=d;rw[SR,show(ai λi=>ah (aA t i))=t from rfl,afH,k,afI l,wg,mg,f,show cX N (λi=>ah (aA t i))=Z from bU c,Me c.le,Me e,Me a,Me (show cT N t i-O (gW N t i own)<=1000 by omega)];rfl
def RA(c:eo N t)(k:bq N t=eH N t)(h:iJ N t i=0)(o:lO N t own=Z)(l:own≠i)(f:0<=gW N t i own)(j:A s=32)(m:frQ N t i own s=Z):ak Q 63 [.p4 I N t,.t6 i,.t6 own,.sM s] []
  (.bP [.ro I .i64 ((fG (·.1) N t i).drop (O (gW N t i own))),.aO Z 32 (cT N t i-O (gW N t i own)) (eI (sJ s)),.agg [.t5 (dH s (cT N t i-O (gW N t i own)))],.t6 0]) []:=by have⟨_,n,w3⟩:=fF c h;have d:=CT own (cT N t i) (j8 N t i);have e:=ay4 N t (fG (·.1) N t i) (gW N t i own) s;have g:=aqy N t (fG (·.1) N t i) (gW N t i own) s;rw[wg] at e;rw[SR] at g;refine ak.yY (v:=.bP [.ro I .i64 ((fG (·.1) N t i).drop (O (gW N t i own))),.aO Z 32 (cT N t i-O (gW N t i own)) (eI (sJ s)),.agg [.t5 (dH s (cT N t i-O (gW N t i own)))],.t6 0]) (h1:=[.b [.t5 s],.b [.t5 (dH s (cT N t i-O (gW N t i own)))]]) [] ?_ rfl;refine ak.mk func63 rfl (s:=⟨ag 56 [(8,.ro I .i64 ((fG (·.1) N t i).drop (O (gW N t i own)))),(9,.aO Z 32 (cT N t i-O (gW N t i own)) (eI (sJ s))),(10,.r5 1),(11,.t6 0)],[.b [.t5 s],.b [.t5 (dH s (cT N t i-O (gW N t i own)))]],Z⟩) (vs:=[.ro I .i64 ((fG (·.1) N t i).drop (O (gW N t i own))),.aO Z 32 (cT N t i-O (gW N t i own)) (eI (sJ s)),.agg [.t5 (dH s (cT N t i-O (gW N t i own)))],.t6 0]) (EU c k h o l f _ _ ?_) (.inl rfl) rfl;refine TrL.qz (m9 0 Z Z []) 60 _ 2 (aaH _) _ e g ?_ KK;have a:gW N t i own<=(cT N t i:Int):=d;rw[show(ai λi=>ah (aA t i))=t from rfl,afH,m,afI n,wg,mg,j,show cX N (λi=>ah (aA t i))=Z from bU c,Me c.le,Me f,Me a,Me (show cT N t i-O (gW N t i own)<=1000 by omega)];rfl
end
attribute [local instance low] Classical.propDecidable
def aaO:aK Q:=.val 71 _ func71 (by decide) rfl I 1 (λvs=>match vs with
 | [.agg [.af .u8 32 s],.int .i64 M]=>E (.bP [.b9 0 32 (O M) (O M) I,.sM (dH s (O M))],[.b [.aF 32 (O M) (eI (cK s))]],C (A s=32)&&C (0<=M)&&C (M<=1000))
 |_=>Y) λvs v new e=>by
 split at e
 ·rename_i s M
  simp only[Mf,aad,No,aac] at e
  have⟨rfl,rfl,⟨a,c⟩,d⟩:=e
  have k:=yZ (M:=O M) a (by omega)
  rwa [Int.toNat_of_nonneg c] at k
 ·cases e
def QX(b:Nat)(l:List (Nat×Bool)):cu:=mk [afF b,ES,aaO,wv,aaP] [] (uT l)
def qF b l:aq Q (QX b l):=au _ aN.nil _ _
def ZK:Code:=aI f24
abbrev plZ:List SV:=[dx,.t5 cG,.t5 cG,dx,dx,.t5 cG]
abbrev HI(c:SV)(lf a:pD)(M b:Nat)(cm:pD):List SV:=[c,.t5 lf,.t5 (iK lf 9),.ro Z .i64 a,.b9 b 32 M M I,.t5 cm]
def ay6 N t i(lf pt:pD):(aV Q (QX 1 []) 60 f24 [.p4 I N t,.t6 i,.sM lf,.sM pt] []).v3=E (.bP [.agg plZ,.t6 3],aa Z (aa Z ((cX N λi=>ah (aA t i))&&C (N<=71)&&bq N (ai λi=>ah (aA t i))==eH N (ai λi=>ah (aA t i))&&iJ N (ai λi=>ah (aA t i)) i==1))):=by kernel_rfl
def ay7 N t i(lf pt:pD):(aV Q (QX 2 []) 60 f24 [.p4 I N t,.t6 i,.sM lf,.sM pt] []).v3=E (.bP [.agg plZ,.t6 9],aa Z (aa Z ((cX N λi=>ah (aA t i))&&C (N<=71)&&bq N (ai λi=>ah (aA t i))==eH N (ai λi=>ah (aA t i))&&iJ N (ai λi=>ah (aA t i)) i==2))):=by kernel_rfl
def nwT(N:Nat)(t:Nat->aE)(i:Int)(b a:pD)(v:SV)(k:Int):List (Option SV):=ag 71 [(0,.p4 I N t),(1,.t6 i),(8,.r5 2),(10,.ro Z .i64 b),(11,.ro Z .i64 a),(14,.r5 3),(15,v),(16,.t6 k)]
def ZL(lf pt a:pD)(M:Nat)(c:Nat->pD)(cm:pD):List Blk:=[.b [.t5 lf],.b [.t5 pt],.b plZ,.b (HI dx lf a M 4 cm),.b [.aF 32 M (eI c)]]
def ZM(N:Nat)(t:Nat->aE)(i:Int)(lf pt a d:pD)(M:Nat)(c:Nat->pD)(cm:pD)(e:Nat->pD)(n:Nat)(k:Int):St:=⟨nwT N t i a d (.b9 5 32 n n I) k,ZL lf pt a M c cm++[.b [.aF 32 n (eI e)]],Z⟩
def SS(N:Nat)(t:Nat->aE)(i:Int)(lf pt:pD):aD (az [0,1,8,10,11,14,15,16] 5 ((bh Q (QX 0 []) 60 0 8 (aH ZK) ⟨aU f24.ntmps [.p4 I N t,.t6 i,.sM lf,.sM pt],[],Z⟩).x3))=(E (.normal,nwT N t i (fG (·.1) N (ai λi=>ah (aA t i)) i) (fG (·.2.1) N (ai λi=>ah (aA t i)) i) dx 0,ZL lf pt (fG (·.1) N (ai λi=>ah (aA t i)) i) (O ((fG (·.1) N (ai λi=>ah (aA t i)) i).length:Int)) (cK pt) (dH pt (O ((fG (·.1) N (ai λi=>ah (aA t i)) i).length:Int)))),(aa (aa (aa Z (aa Z ((cX N λi=>ah (aA t i))&&C (N<=71)&&bq N (ai λi=>ah (aA t i))==eH N (ai λi=>ah (aA t i))&&iJ N (ai λi=>ah (aA t i)) i==0))) (aa Z (fh lf))) (aa Z (C (A pt=32)&&Z&&C ((A (fG (λx=>x.fst) N (ai λi=>ah (aA t i)) i):Int)<=1000))))):=by kernel_rfl
def ay9 N t i lf pt:=bu (SS N t i lf pt)
def aqA N t i lf pt:=bz (SS N t i lf pt)
def SU(N:Nat)(t:Nat->aE)(i:Int)(lf pt a d:pD)(M:Nat) c(cm:pD) ks(n:Nat)(k:Int):aD (az [0,1,8,10,11,14,15,16] 6 (exec Q (QX 0 [(47,Z)]) 60 0 (aj (aj (aJ 8 ZK))) (ZM N t i lf pt a d M c cm ks n k)))=(E (.normal,(ZM N t i lf pt a d M c cm ks (n+1) (i64.wrap (k+1))).t,ZL lf pt a M c cm++[.b [.aF 32 (n+1) λj=>bF (Nat.ble (j+1) n) (eI ks j) [.t5 (iK (iL dc (c (O k))) 9)]]]),(aa (aa (aa (aa (aa (aa Z (C (k<(A a:Int)))) (bC k M)) (Z&&(C (O k<M)&&Z))) (aa Z (C (A (c k.toNat)=32)))) (aa Z (fh (iL dc (c (O k)))))) (aa (aa Z (C (n<=n))) (C (n+1<=2^38))))):=by kernel_rfl
def aza N t i lf pt ws kd M c cm ks n k:=bu (SU N t i lf pt ws kd M c cm ks n k)
def aqB N t i lf pt ws kd M c cm ks n k:=bz (SU N t i lf pt ws kd M c cm ks n k)
def SW(N:Nat)(t:Nat->aE)(i:Int)(lf pt a b:pD)(M:Nat) c(cm:pD) ks(n:Nat)(k:Int):aD (az [0,1,8,10,11,14,15] 6 (exec Q (QX 0 [(47,I)]) 60 0 (aj (aj (aJ 8 ZK))) (ZM N t i lf pt a b M c cm ks n k)))=(E (.exit 0,ag 71 [(0,.p4 I N t),(1,.t6 i),(8,.r5 2),(10,.ro Z .i64 a),(11,.ro Z .i64 b),(14,.r5 3),(15,.b9 5 32 n n I)],(ZM N t i lf pt a b M c cm ks n k).h),(aa Z !C (k<(A a:Int)))):=by kernel_rfl
def azc(N:Nat)(t:Nat->aE)(i:Int)(lf pt a d:pD)(M:Nat) c(cm:pD) ks(n:Nat):jd (az [8,9] 5 (eM Q (QX 0 []) 60 0 ((aH ZK).drop 9) ⟨ag 71 [(0,.p4 I N t),(1,.t6 i),(8,.r5 2),(10,.ro Z .i64 a),(11,.ro Z .i64 d),(14,.r5 3),(15,.aO Z 32 n (eI ks))],ZL lf pt a M c cm++[.b []],Z⟩))=E (.ret,ag 71 [(8,.r5 2),(9,.t6 0)],[.b [.t5 lf],.b [.t5 pt],.b (HI (.aO Z 99 N (aA (rnV N (ai λi=>ah (aA t i)) i (unK λk=>ah (eI ks k)) (iK lf 9)))) lf a M 4 cm),.b (HI (.aO Z 99 N (aA (rnV N (ai λi=>ah (aA t i)) i (unK λk=>ah (eI ks k)) (iK lf 9)))) lf a M 4 cm),.b [.aF 32 M (eI c)]]):=by kernel_rfl
def aqD(N:Nat)(t:Nat->aE)(i:Int)(lf pt a d:pD)(M:Nat) c(cm:pD) ks(n:Nat):uF (az [8,9] 5 (eM Q (QX 0 []) 60 0 ((aH ZK).drop 9) ⟨ag 71 [(0,.p4 I N t),(1,.t6 i),(8,.r5 2),(10,.ro Z .i64 a),(11,.ro Z .i64 d),(14,.r5 3),(15,.aO Z 32 n (eI ks))],ZL lf pt a M c cm++[.b []],Z⟩))=(aa Z (aa Z ((cX N λi=>ah (aA t i))&&C (N<=71)&&iJ N (ai λi=>ah (aA t i)) i==0&&oJ N (ai λi=>ah (aA t i))&&C (a=fG (λx=>x.fst) N (ai λi=>ah (aA t i)) i)&&C (d=fG (λx=>x.snd.fst) N (ai λi=>ah (aA t i)) i)&&C (n=cT N (ai λi=>ah (aA t i)) i)&&C ((λi=>ah (eI ks i))=eI (unK λi=>ah (eI ks i)))&&kyB n (unK λi=>ah (eI ks i))&&C (uE (iK lf 9))))):=by kernel_rfl
end Fo
namespace Fo
open Sy Sh La Re Tr Pa Mk Wi
attribute [local instance low] Classical.propDecidable
def yy(pt:pD):Nat->pD:=λk=>Il (cK pt k)
def CK{l:pD}(h:fh l=Z):uE l:=by have⟨c,a⟩:=j9.1 h;refine⟨c,λz b=>?_⟩;have:=aaB.1 a z b;simpa[Fe.u8,Fe.inU] using this
def RG(pt:pD)(n:Nat):kyB n (yy pt)=Z:=aaB.2 λk _=>by have⟨e,c⟩:=CK (yU (iL dc (cK pt k)) 9);unfold yy Il;rw[Me e,af0];exact aaB.2 λz d=>by have⟨a,b⟩:=c z d;rw[Me a,Me b];rfl
def SX(pt:pD)(n:Nat):∀i,i<n+1->PE (bF (Nat.ble (i+1) n) (eI (yy pt) i) [.t5 (iK (iL dc (cK pt n)) 9)]) (eI (yy pt) i):=qv (yy pt) n
def SY:(aH ZK).drop 9≠[]:=by
 intro q;have:A ((aH ZK).drop 9)=3:=by kernel_rfl
 rw[q] at this;cases this
section
variable {N:Nat} {t:Nat->aE} {i:Int} {lf pt:pD}
def apv(a:eo N t)(b:bq N t=eH N t)(h:iJ N t i=1):ak Q 24 [.p4 I N t,.t6 i,.sM lf,.sM pt] [] (.bP [.agg plZ,.t6 3]) []:=
 aP (qF 1 []) 60 func24 (ay6 N t i lf pt) (by rw[show cX N (λi=>ah (aA t i))=Z from bU a,Me a.le,show(ai λi=>ah (aA t i))=t from rfl,b,h];simp[aa]) rfl
def apw(a:eo N t)(b:bq N t=eH N t)(h:iJ N t i=2):ak Q 24 [.p4 I N t,.t6 i,.sM lf,.sM pt] [] (.bP [.agg plZ,.t6 9]) []:=
 aP (qF 2 []) 60 func24 (ay7 N t i lf pt) (by rw[show cX N (λi=>ah (aA t i))=Z from bU a,Me a.le,show(ai λi=>ah (aA t i))=t from rfl,b,h];simp[aa]) rfl
def Km(N:Nat)(t:Nat->aE)(i:Int)(lf pt:pD):Nat->aE:=rnV N t i (yy pt) (iK lf 9)
def aih{N t i}{lf pt a d:pD}{M c}{cm:pD}{e s' l}(q:jd (az [8,9] 5 (eM Q (QX 0 []) 60 0 ((aH ZK).drop 9) ⟨ag 71 [(0,.p4 I N t),(1,.t6 i),(8,.r5 2),(10,.ro Z .i64 a),(11,.ro Z .i64 d),(14,.r5 3),(15,.aO Z 32 M (eI e))],ZL lf pt a M c cm++[.b []],Z⟩))=E (.ret,s'.t,s'.h))
  (j:uF (az [8,9] 5 (eM Q (QX 0 []) 60 0 ((aH ZK).drop 9) ⟨ag 71 [(0,.p4 I N t),(1,.t6 i),(8,.r5 2),(10,.ro Z .i64 a),(11,.ro Z .i64 d),(14,.r5 3),(15,.aO Z 32 M (eI e))],ZL lf pt a M c cm++[.b []],Z⟩))=l)(m:l=Z):
  TrL Q Y 0 ((aH ZK).drop 9) ⟨ag 71 [(0,.p4 I N t),(1,.t6 i),(8,.r5 2),(10,.ro Z .i64 a),(11,.ro Z .i64 d),(14,.r5 3),(15,.b9 5 32 M M I)],(ZM N t i lf pt a d M c cm e M 0).h,Z⟩ .ret s':=by
 have k:=TrL.qz (ro:=Y) (qF 0 []) 60 [8,9] 5 (aaH _) l q j m SY
 have f:=bG.Kh (k:=0) (t:=ag 71 [(0,.p4 I N t),(1,.t6 i),(8,.r5 2),(10,.ro Z .i64 a),(11,.ro Z .i64 d),(14,.r5 3),(15,.b9 5 32 M M I)]) (h:=(ZM N t i lf pt a d M c cm e M 0).h) (o:=Z) (o':=Z) (z:=32) (n:=M) (len:=M) (cap:=M) (ex:=I) (g:=eI e) 15 5 (aaH _) rfl rfl (aar _) rfl rfl
 have e1:(ag 71 [(0,.p4 I N t),(1,.t6 i),(8,.r5 2),(10,.ro Z .i64 a),(11,.ro Z .i64 d),(14,.r5 3),(15,.b9 5 32 M M I)]).set 15 (E (.aO Z 32 M (eI e)))=ag 71 [(0,.p4 I N t),(1,.t6 i),(8,.r5 2),(10,.ro Z .i64 a),(11,.ro Z .i64 d),(14,.r5 3),(15,.aO Z 32 M (eI e))]:=by kernel_rfl
 have e2:(ZM N t i lf pt a d M c cm e M 0).h.set 5 (.b [])=ZL lf pt a M c cm++[.b []]:=rfl
 rw[e1,e2] at f
 exact TrL.pre k f SY
theorem m7{N t i}{lf pt a d:pD}{M c}{cm:pD}{e s' l}(q:aD (az [8,9] 5 (eM Q (QX 0 []) 60 0 ((aH ZK).drop 9) ⟨ag 71 [(0,.p4 I N t),(1,.t6 i),(8,.r5 2),(10,.ro Z .i64 a),(11,.ro Z .i64 d),(14,.r5 3),(15,.aO Z 32 M (eI e))],ZL lf pt a M c cm++[.b []],Z⟩))=(E (.ret,s'.t,s'.h),l))(m:l=Z):
  TrL Q Y 0 ((aH ZK).drop 9) ⟨ag 71 [(0,.p4 I N t),(1,.t6 i),(8,.r5 2),(10,.ro Z .i64 a),(11,.ro Z .i64 d),(14,.r5 3),(15,.b9 5 32 M M I)],(ZM N t i lf pt a d M c cm e M 0).h,Z⟩ .ret s':=aih (bu q) (bz q) m
def apt(n:eo N t)(hg:bq N t=eH N t)(h:iJ N t i=0)(hb:oJ N t=Z)(hl:fh lf=Z)(p:A pt=32):
  ak Q 24 [.p4 I N t,.t6 i,.sM lf,.sM pt] []
   (.bP [.agg (HI (.aO Z 99 N (aA (Km N t i lf pt))) lf (fG (·.1) N t i) (cT N t i) 0 (dH pt (cT N t i))),.t6 0]) [.b [.aF 32 (cT N t i) (eI (cK pt))]]:=by
 have⟨_,_,w3⟩:=fF n h
 have m:(ai λi=>ah (aA t i))=t:=rfl
 have l:cX N (λi=>ah (aA t i))=Z:=bU n
 have e:=ay9 N t i lf pt
 have e':=aqA N t i lf pt
 rw[m,mg,aaq] at e
 rw[m] at e'
 refine ak.yY (v:=.bP [.agg (HI (.aO Z 99 N (aA (Km N t i lf pt))) lf (fG (·.1) N t i) (cT N t i) 4 (dH pt (cT N t i))),.t6 0]) (h1:=[.b [.t5 lf],.b [.t5 pt],.b (HI (.aO Z 99 N (aA (Km N t i lf pt))) lf (fG (·.1) N t i) (cT N t i) 4 (dH pt (cT N t i))),.b (HI (.aO Z 99 N (aA (Km N t i lf pt))) lf (fG (·.1) N t i) (cT N t i) 4 (dH pt (cT N t i))),.b [.aF 32 (cT N t i) (eI (cK pt))]]) [4] ?_ rfl
 refine ak.sW func24 rfl 8 0 (λj=>ZM N t i lf pt (fG (·.1) N t i) (fG (·.2.1) N t i) (cT N t i) (cK pt) (dH pt (cT N t i)) (yy pt) j (j:Int)) (cT N t i)
  (λy s' g=>TrL.bY (qF 0 []) 60 8 _ 5 (aaH _) _ e e' (by
   rw[mg,l,Me n.le,hg,h,hl,Me p,Me (show(cT N t i:Int)<=1000 by omega)];simp[aa]) (by decide) rfl (TrL.pre g (bG.uU 15 rfl 32 (eI (yy pt)) I) (by intro q;cases q))) (by decide) rfl
  (λj o=>?_) (sE:=⟨ag 71 [(0,.p4 I N t),(1,.t6 i),(8,.r5 2),(10,.ro Z .i64 (fG (·.1) N t i)),(11,.ro Z .i64 (fG (·.2.1) N t i)),(14,.r5 3),(15,.b9 5 32 (cT N t i) (cT N t i) I)],(ZM N t i lf pt (fG (·.1) N t i) (fG (·.2.1) N t i) (cT N t i) (cK pt) (dH pt (cT N t i)) (yy pt) (cT N t i) 0).h,Z⟩)
  (s':=⟨ag 71 [(8,.r5 2),(9,.t6 0)],[.b [.t5 lf],.b [.t5 pt],.b (HI (.aO Z 99 N (aA (Km N t i lf pt))) lf (fG (·.1) N t i) (cT N t i) 4 (dH pt (cT N t i))),.b (HI (.aO Z 99 N (aA (Km N t i lf pt))) lf (fG (·.1) N t i) (cT N t i) 4 (dH pt (cT N t i))),.b [.aF 32 (cT N t i) (eI (cK pt))]],Z⟩) (x:=.ret) (v:=[.agg (HI (.aO Z 99 N (aA (Km N t i lf pt))) lf (fG (·.1) N t i) (cT N t i) 4 (dH pt (cT N t i))),.t6 0]) ?_ ?_ (.inl rfl) rfl
 ·have r:=aza N t i lf pt (fG (·.1) N t i) (fG (·.2.1) N t i) (cT N t i) (cK pt) (dH pt (cT N t i)) (yy pt) j j
  have d:=aqB N t i lf pt (fG (·.1) N t i) (fG (·.2.1) N t i) (cT N t i) (cK pt) (dH pt (cT N t i)) (yy pt) j j
  rw[dm (by omega),aaq] at r
  rw[aaq,mg] at d
  refine Tr.post (s1:=⟨(ZM N t i lf pt (fG (·.1) N t i) (fG (·.2.1) N t i) (cT N t i) (cK pt) (dH pt (cT N t i)) (yy pt) (j+1) (j+1:Int)).t,ZL lf pt (fG (·.1) N t i) (cT N t i) (cK pt) (dH pt (cT N t i))++[.b [.aF 32 (j+1) λk=>bF (Nat.ble (k+1) j) (eI (yy pt) k) [.t5 (iK (iL dc (cK pt j)) 9)]]],Z⟩) (Tr.bg (qF 0 [(47,Z)]) 60 _ 6 (aaH _) _ r d ?_) (bG.tD (show Ef [.b [.t5 lf],.b [.t5 pt],.b plZ,.b (HI dx lf (fG (·.1) N t i) (cT N t i) 4 (dH pt (cT N t i))),.b [.aF 32 (cT N t i) (eI (cK pt))],.b [.aF 32 (j+1) λk=>bF (Nat.ble (k+1) j) (eI (yy pt) k) [.t5 (iK (iL dc (cK pt j)) 9)]]] [.b [.t5 lf],.b [.t5 pt],.b plZ,.b (HI dx lf (fG (·.1) N t i) (cT N t i) 4 (dH pt (cT N t i))),.b [.aF 32 (cT N t i) (eI (cK pt))],.b [.aF 32 (j+1) (eI (yy pt))]] from⟨PE.refl _,PE.refl _,PE.refl _,PE.refl _,PE.refl _,PE.aF (SX pt j),trivial⟩))
  rw[g8 o,bW o,Me o,Me (lP p j),yu,Me (aar j),Me (by omega)]
  rfl
 ·exact Tr.i7 (qF 0 [(47,I)]) (aaH _) (SW N t i lf pt (fG (·.1) N t i) (fG (·.2.1) N t i) (cT N t i) (cK pt) (dH pt (cT N t i)) (yy pt) (cT N t i) (cT N t i)) (by rw[mg,gV (aar _)];rfl)
 ·have ez:=azc N t i lf pt (fG (·.1) N t i) (fG (·.2.1) N t i) (cT N t i) (cK pt) (dH pt (cT N t i)) (yy pt) (cT N t i)
  have f:=aqD N t i lf pt (fG (·.1) N t i) (fG (·.2.1) N t i) (cT N t i) (cK pt) (dH pt (cT N t i)) (yy pt) (cT N t i)
  have hk:(unK λk=>ah (eI (yy pt) k))=yy pt:=rfl
  rw[m,hk,show rnV N t i (yy pt) (iK lf 9)=Km N t i lf pt from rfl] at ez
  rw[m,hk] at f
  refine aih ez f ?_
  rw[l,Me n.le,h,hb,Me (rfl:fG (·.1) N t i=fG (·.1) N t i),Me (rfl:fG (·.2.1) N t i=fG (·.2.1) N t i),Me (rfl:cT N t i=cT N t i),Me (show(λk=>ah (eI (yy pt) k))=eI (yy pt) from rfl),RG,Me (CK (yU lf 9))]
  rfl
end
end Fo
namespace Fo
open Sy Sh La Re Tr Pa Mk Wi
def iA(f:Nat->Int×pD):Nat->List SV:=λk=>[.t6 (f k).1,.t5 (f k).2]
def iQ(l:List (Nat×Bool)):cu:=mk (P:=Q) [] [] (uT l)
def eJ(l:List (Nat×Bool)):aq Q (iQ l):=au _ aN.nil _ _
def ZN:Code:=aI f102
def keR:Code:=br (br ZN)
def SZ:Code:=aj (aj (br (cq keR)))
def keI:Code:=aj (cq (br (br SZ)))
def BC(n:Nat)(f:Nat->Int×pD)(m:Nat)(i:Int)(x:List (Nat×SV))(b:List Blk):St:=⟨ag 20 ([(3,eV m),(7,.aO I 33 n (iA f)),(8,.t6 n),(9,.t6 i)]++x),b,Z⟩
def S5 n(f:Nat->Int×pD):aD (az [0] 0 (exec Q (iQ []) 60 0 (cq ZN) ⟨aU f102.ntmps [.aO I 33 n (iA f)],[],Z⟩))=(E (.normal,ag 20 [(0,.aO I 33 n (iA f))],[]),(Z)):=by kernel_rfl
def KL n(f:Nat->Int×pD) m:aD (az [0,3] 0 ((cg Q (c7 Q (iQ []) λk=>Sy.exec Q (iQ []) 60 k) (iQ []).sym (iQ []).eZ 0 (bO (cq (br ZN))) [1] ⟨bK (ag 20 [(0,.aO I 33 n (iA f))]) (E 6) (eV m),[],Z⟩).x3))=(E (.normal,ag 20 [(0,.aO I 33 n (iA f)),(3,eV m)],[]),(Z)):=by kernel_rfl
def S6 n(f:Nat->Int×pD) m:aD (az [3,7,8,9] 0 (exec Q (iQ []) 60 0 (cq (cq keR)) ⟨ag 20 [(0,.aO I 33 n (iA f)),(3,eV m)],[],Z⟩))=(E (.normal,(BC n f m 0 [] []).t,[]),(Z)):=by kernel_rfl
def S7 n(f:Nat->Int×pD) m i:aD (az [3] 0 (exec Q (iQ [(10,I)]) 60 0 SZ (BC n f m i [] [])))=(E (.exit 0,ag 20 [(3,eV m)],[]),(aa Z !C (i<(n:Int)))):=by kernel_rfl
def S8 m:aD (az [2] 0 (exec Q (iQ []) 60 0 (br keR) ⟨ag 20 [(3,eV m)],[],Z⟩))=(E (.ret,ag 20 [(2,eV m)],[]),(Z)):=by kernel_rfl
def S9 n(f:Nat->Int×pD) m i:aD (az [3,7,8,9] 0 ((bh Q (iQ [(10,Z)]) 60 0 2 [cq SZ,cq (br SZ)] (BC n f m i [] [])).x3))=(E (.normal,(BC n f m i [] []).t,[]),(aa Z (C (i<(n:Int))))):=by kernel_rfl
def Ta n(f:Nat->Int×pD) m i:aD (az [3,5,7,8,9] 1 (exec Q (iQ []) 60 0 (cq keI) (BC n f m i [] [])))=(E (.normal,(BC n f m i [(5,.r5 0)] []).t,[.b [.t6 (f (O i)).1,.t5 (f (O i)).2]]),(aa (aa Z (bC i n)) (Z&&(C (O i<n)&&Z)))):=by kernel_rfl
def azi n f m i:=bu (Ta n f m i)
def aqK n f m i:=bz (Ta n f m i)
def Tb n(f:Nat->Int×pD) m i x(d:pD):aD (az [3,7,8,9,13,15,17] 0 ((cg Q (c7 Q (iQ []) λk=>Sy.exec Q (iQ []) 60 k) (iQ []).sym (iQ []).eZ 1 (bO (br keI)) [0,1,2,3,4] (BC n f m i [(5,.r5 0)] [.b [.t6 x,.t5 d]])).x3))=(E (.normal,(BC n f m i [(13,eV m),(15,.t6 x),(17,.sM d)] []).t,[]),(Z)):=by kernel_rfl
def Tc n(f:Nat->Int×pD) m i:aD (az [3,7,8,9] 0 (exec Q (iQ []) 60 0 (br (br (br SZ))) (BC n f m i [] [])))=(E (.normal,(BC n f m (i64.wrap (i+1)) [] []).t,[]),(Z)):=by kernel_rfl
def azk n f m i:=bu (Tc n f m i)
def aqM n f m i:=bz (Tc n f m i)
def QY:Code:=aI f64
def saK:Code:=cq (br (br QY))
def saR:Code:=br (br (br QY))
def BD:Code:=aj (aj (br (cq saR)))
def QZ:Code:=aj (br (br BD))
def kO(v:Value)(x:List (Nat×SV)):List (Option SV):=ag 27 ([(0,.nl v)]++x)
def Td v n(f:Nat->Int×pD):aD (az [0,1] 0 (exec Q (iQ []) 60 0 (cq QY) ⟨aU f64.ntmps [.nl v,.aO I 33 n (iA f)],[],Z⟩))=(E (.normal,kO v [(1,.aO I 33 n (iA f))],[]),(Z)):=by kernel_rfl
def Te v n(f:Nat->Int×pD):aD (az [0,8] 0 ((cg Q (c7 Q (iQ []) λk=>Sy.exec Q (iQ []) 60 k) (iQ []).sym (iQ []).eZ 0 (bO (cq (br QY))) [0] ⟨kO v [(1,.aO I 33 n (iA f))],[],Z⟩).x3))=(E (.normal,kO v [(8,.aO I 33 n (iA f))],[]),(Z)):=by kernel_rfl
def Tf v n(f:Nat->Int×pD) m:aD (az [0,5] 0 ((cg Q (c7 Q (iQ []) λk=>Sy.exec Q (iQ []) 60 k) (iQ []).sym (iQ []).eZ 0 (bO (cq (br QY))) [2] ⟨bK (kO v [(8,.aO I 33 n (iA f))]) (E 9) (eV m),[],Z⟩).x3))=(E (.normal,kO v [(5,eV m)],[]),(Z)):=by kernel_rfl
def Tg v m:aD (az [0,5,10] 0 ((cg Q (c7 Q (iQ []) λk=>Sy.exec Q (iQ []) 60 k) (iQ []).sym (iQ []).eZ 0 (bO (cq saK)) [0] ⟨kO v [(5,eV m)],[],Z⟩).x3))=(E (.normal,kO v [(5,eV m),(10,.nl v)],[]),(Z)):=by kernel_rfl
def Th v m a:aD (az [0,5,11,12] 0 ((cg Q (c7 Q (iQ []) λk=>Sy.exec Q (iQ []) 60 k) (iQ []).sym (iQ []).eZ 0 (bO (cq saK)) [2] ⟨bK (kO v [(5,eV m),(10,.nl v)]) (E 11) (.t6 a),[],Z⟩).x3))=(E (.normal,kO v [(5,eV m),(11,.t6 a),(12,eV m)],[]),(Z)):=by kernel_rfl
def Ti v m a b:aD (az [0,5,14] 0 ((cg Q (c7 Q (iQ [(14,I)]) λk=>Sy.exec Q (iQ [(14,I)]) 60 k) (iQ [(14,I)]).sym (iQ [(14,I)]).eZ 0 (bO (cq saK)) [4] ⟨bK (kO v [(5,eV m),(11,.t6 a),(12,eV m)]) (E 13) (.t6 b),[],Z⟩).x3))=(E (.normal,kO v [(5,eV m),(14,.bool I)],[]),(aa Z !a != b)):=by kernel_rfl
def Tj v m:aD (az [0,5] 0 (exec Q (iQ []) 60 0 (br saK) ⟨kO v [(5,eV m),(14,.bool I)],[],Z⟩))=(E (.normal,kO v [(5,eV m)],[]),(Z)):=by kernel_rfl
def Tk v m:aD (az [0,15] 0 ((cg Q (c7 Q (iQ []) λk=>Sy.exec Q (iQ []) 60 k) (iQ []).sym (iQ []).eZ 0 (bO (cq (cq saR))) [0] ⟨kO v [(5,eV m)],[],Z⟩).x3))=(E (.normal,kO v [(15,eV m)],[]),(Z)):=by kernel_rfl
def Tl(_u:Unit):aD (az [4] 0 (exec Q (iQ []) 60 0 (br saR) ⟨ag 27 [],[],Z⟩))=(E (.ret,ag 27 [(4,.bool Z)],[]),(Z)):=by kernel_rfl
abbrev uY(r:Nat):SV:=.nl (.pointer (E ⟨r,0,Y⟩))
def Tm v r:aD (az [18] 0 ((cg Q (c7 Q (iQ []) λk=>Sy.exec Q (iQ []) 60 k) (iQ []).sym (iQ []).eZ 0 (bO (cq BD)) [1] ⟨bK (kO v [(16,uY r)]) (E 17) (.bP [.bool I]),[],Z⟩).x3))=(E (.normal,ag 27 [(18,.bool I)],[]),(Z)):=by kernel_rfl
def To(_u:Unit):aD (az [] 0 (exec Q (iQ []) 60 0 (br BD) ⟨ag 27 [(18,.bool I)],[],Z⟩))=(E (.exit 0,ag 27 [],[]),(Z)):=by kernel_rfl
def Tp v r x(d:pD):aD (az [0,16,18] 0 ((cg Q (c7 Q (iQ []) λk=>Sy.exec Q (iQ []) 60 k) (iQ []).sym (iQ []).eZ 0 (bO (cq BD)) [1] ⟨bK (kO v [(16,uY r)]) (E 17) (.bP [.bool Z,.t6 x,.sM d]),[],Z⟩).x3))=(E (.normal,kO v [(16,uY r),(18,.bool Z)],[]),(Z)):=by kernel_rfl
def Tq v r:aD (az [0,16] 0 (exec Q (iQ []) 60 0 (cq (br BD)) ⟨kO v [(16,uY r),(18,.bool Z)],[],Z⟩))=(E (.normal,kO v [(16,uY r)],[]),(Z)):=by kernel_rfl
def Ts v r x(d:pD):aD (az [0,6,7,16] 1 ((cg Q (c7 Q (iQ []) λk=>Sy.exec Q (iQ []) 60 k) (iQ []).sym (iQ []).eZ 0 (bO (cq QZ)) [1,2,3,4,5] ⟨bK (kO v [(16,uY r)]) (E 19) (.bP [.t6 x,.sM d]),[],Z⟩).x3))=(E (.normal,kO v [(6,.t6 x),(7,.r5 0),(16,uY r)],[.b [.t5 d]]),(Z)):=by kernel_rfl
def Tt v r x(d:pD):aD (az [0,7,16,22,23] 1 ((cg Q (c7 Q (iQ []) λk=>Sy.exec Q (iQ []) 60 k) (iQ []).sym (iQ []).eZ 1 (bO (cq (br QZ))) [0,1] ⟨kO v [(6,.t6 x),(7,.r5 0),(16,uY r)],[.b [.t5 d]],Z⟩).x3))=(E (.normal,kO v [(7,.r5 0),(16,uY r),(22,.nl v),(23,.t6 x)],[.b [.t5 d]]),(Z)):=by kernel_rfl
def Tu v r x(d:pD):aD (az [0,16,26] 0 ((cg Q (c7 Q (iQ [(26,I)]) λk=>Sy.exec Q (iQ [(26,I)]) 60 k) (iQ [(26,I)]).sym (iQ [(26,I)]).eZ 1 (bO (cq (br QZ))) [3,4] ⟨bK (kO v [(7,.r5 0),(16,uY r),(22,.nl v),(23,.t6 x)]) (E 24) (.sM d),[.b [.t5 d]],Z⟩).x3))=(E (.normal,kO v [(16,uY r),(26,.bool I)],[]),(aa (aa Z (aa (C (A d=32)) (C (A d=32)))) !!C (d=d))):=by kernel_rfl
def Tv v r:aD (az [0,16] 0 (exec Q (iQ []) 60 0 (br (br QZ)) ⟨kO v [(16,uY r),(26,.bool I)],[],Z⟩))=(E (.normal,kO v [(16,uY r)],[]),(Z)):=by kernel_rfl
def aik:ZN=.seq (cq ZN) (.seq (.region 1 (bO (cq (br ZN))) I) keR):=by kernel_rfl
def ail:keR=.seq (.seq (cq (cq keR)) (.block 0 (.loop SZ))) (br keR):=by kernel_rfl
def aim:SZ=[cq SZ,cq (br SZ)].foldr .seq (.seq (.block 1 keI) (br (br (br SZ)))):=by kernel_rfl
def ain:keI=.seq (cq keI) (.region 5 (bO (br keI)) I):=by kernel_rfl
section
variable {n m i:Nat} {f:Nat->Int×pD}
def Tw(hn:n<=100000)(hf:∀k,(f k).2.length=32)(hi:i<n):
  TrX Q Y 0 SZ (BC n f m (i:Int) [] []) (bA Z m (gF f i)) .normal (BC n f m ((i+1:Nat):Int) [] []) (bA Z m (gF f (i+1))):=by
 have K:=bA.bJ Z m
 have F:=bA.cj Z m
 have h4:=azi n f m i
 have a:=aqK n f m i
 rw[aaq] at h4 a
 have c:=azk n f m i
 rw[dm (by omega)] at c
 rw[aim]
 refine TrX.i5 (eJ [(10,Z)]) (K _) (F _) (aaH _) (S9 ..) (by rw[g8 hi];rfl) ?_
 refine TrX.seq (s1:=BC n f m (i:Int) [] []) (TrX.cz ?_ (by simp)) (TrX.bg (eJ []) (K _) (F _) 60 _ 0 (aaH _) _ c (aqM n f m i) rfl)
 rw[ain]
 refine TrX.seq (s1:=BC n f m (i:Int) [(5,.r5 0)] [.b [.t6 (f i).1,.t5 (f i).2]]) (H1:=bA Z m (gF f i)) (TrX.bg (eJ []) (K _) (F _) 60 _ 1 (aaH _) _ h4 a (by rw[bW hi,Me hi];rfl)) ?_
 have hW:OX Q Y 0 (bO (br keI)) (t8 (bO (br keI)).size) (BC n f m (i:Int) [(5,.r5 0)] [.b [.t6 (f i).1,.t5 (f i).2]]) (bA Z m (gF f i)) (BC n f m (i:Int) [(13,eV m),(15,.t6 (f i).1),(17,.agg [.t5 (f i).2])] []) (bA Z m (gF f (i+1))):=by
  rw[show t8 (bO (br keI)).size=[0,1,2,3,4]++[5] by kernel_rfl]
  refine OX.append (OX.i3 (s':=BC n f m (i:Int) [(13,eV m),(15,.t6 (f i).1),(17,.agg [.t5 (f i).2])] []) (eJ []) (K _) (F _) (aaH _) (Tb n f m i (f i).1 (f i).2) rfl) ?_
  exact OX.RL (t:=97) (kt:=3) (et:=25) (xm:=.tmp 13) (xk:=.tmp 15) (xv:=.tmp 17) rfl rfl rfl rfl rfl rfl rfl (hf i)
 exact TrX.QO (F _) (TrX.region 5 hW) (bG.cut (live:=[3,7,8,9]) (n:=0) (aaH _) rfl)
def aaU(o:n<=100000)(l:∀k,(f k).2.length=32):eL prog 102 [.aO I 33 n (iA f)] [] (λ_=>True) (λm=>eV m) (λm=>bA Z m (gF f n)):=by
 have a:fu prog Y 0 ZN ⟨aU f102.ntmps [.aO I 33 n (iA f)],[],Z⟩ TH .ret (λm=>⟨ag 20 [(2,eV m)],[],Z⟩) (λm=>bA Z m (gF f n)):=by
  rw[aik]
  refine fu.seq (TrX.i4 (s':=⟨ag 20 [(0,.aO I 33 n (iA f))],[],Z⟩) (eJ []) TH.bJ TH.cj (aaH _) (S5 n f) rfl) ?_
  refine fu.EC (S:=λm=>⟨ag 20 [(0,.aO I 33 n (iA f)),(3,eV m)],[],Z⟩) (G:=λm=>bA Z m []) (nX.CP 1 ?_) λm=>?_
  ·rw[show t8 (bO (cq (br ZN))).size=[0]++[1] by kernel_rfl]
   refine nX.then (nX.afo (H:=TH) (dst:=E 6) (t:=97) TH.bJ TH.cj rfl rfl) λm=>?_
   have e:OX prog Y 0 (bO (cq (br ZN))) [1] ⟨bK (ag 20 [(0,.aO I 33 n (iA f))]) (E 6) (eV m),[],Z⟩ (bA Z m []) ⟨ag 20 [(0,.aO I 33 n (iA f)),(3,eV m)],[],Z⟩ (bA Z m []):=OX.i3 (eJ []) (bA.bJ Z m []) (bA.cj Z m []) (aaH _) (KL ..) rfl
   exact λB e1 w t' d Q nn rest hB hl R h hQ=>e B e1 w t' d Q nn rest hB hl R h.1 hQ
  ·have K:=bA.bJ Z m
   have F:=bA.cj Z m
   rw[ail]
   refine TrX.seq (TrX.seq (TrX.i4 (s':=BC n f m (0:Int) [] []) (eJ []) (K []) (F []) (aaH _) (S6 ..) rfl) (TrX.block (jE.loop (jE.for (by simp) (λj:Nat=>BC n f m (j:Int) [] []) (λj=>bA Z m (gF f j)) n (λj hj=>Tw o l hj) (TrX.i4 (s':=⟨ag 20 [(3,eV m)],[],Z⟩) (eJ [(10,I)]) (K _) (F _) (aaH _) (S7 ..) (by rw[gV (aar _)];rfl)))))) ?_
   exact TrX.i4 (eJ []) (K _) (F _) (aaH _) (S8 m) rfl
 exact eL.of (S:=λm=>⟨ag 20 [(2,eV m)],[],Z⟩) (vs:=λm=>[eV m]) func102 (c:=ZN) rfl (.inl rfl) (λm=>bA.low _ _ _) (λm=>bA.CL _ _ _) a (λ_=>rfl) (λ_=>by kernel_rfl)
end
def aio:QY=.seq (cq QY) (.seq (.region 1 (bO (cq (br QY))) I) (.seq saK saR)):=by kernel_rfl
def aip:saK=.seq (.region 2 (bO (cq saK)) I) (br saK):=by kernel_rfl
def aiq:saR=.seq (.seq (.region 4 (bO (cq (cq saR))) I) (.block 0 (.loop BD))) (br saR):=by kernel_rfl
def air:BD=.seq (.region 5 (bO (cq BD)) I) (.seq (cq (br BD)) (.block 1 QZ)):=by kernel_rfl
def aaV:BD=.seq (.region 5 (bO (cq BD)) I) (br BD):=by kernel_rfl
def ais:QZ=.seq (.region 6 (bO (cq QZ)) I) (.seq (.region 7 (bO (cq (br QZ))) I) (br (br QZ))):=by kernel_rfl
def EB.bJ l p:fT (WH (EB l p)):=λ_ _ _ _ _ _ _ _ _ h _=>h
def EB.cj l p:gj (WH (EB l p)):=λ_ _ _ _ h=>h
section
variable {n m m1 r q:Nat} {f:Nat->Int×pD} {l:List (Int×Value)}
def aaW(hk:nJ l){p:Int×pD}(hp:(p.1,jb .u8 p.2)∈l)(a:A p.2=32):
  TrX Q Y 0 QZ ⟨kO (.map (E m1)) [(16,uY r)],[],Z⟩ (cZ (jk r m l q (p.1,jb .u8 p.2)) (bA I m1 l)) .normal ⟨kO (.map (E m1)) [(16,uY r)],[],Z⟩ (cZ (jk r m l q (p.1,jb .u8 p.2)) (bA I m1 l)):=by
 have K:=cZ.bJ (jk.bJ r m l q (p.1,jb .u8 p.2)) (bA.bJ I m1 l)
 have F:=cZ.cj (jk.cj r m l q (p.1,jb .u8 p.2)) (bA.cj I m1 l)
 rw[ais]
 refine TrX.seq (s1:=⟨kO (.map (E m1)) [(6,.t6 p.1),(7,.r5 0),(16,uY r)],[.b [.t5 p.2]],Z⟩) (H1:=(cZ (jk r m l q (p.1,jb .u8 p.2)) (bA I m1 l))) (TrX.region 6 ?_) (TrX.seq (s1:=⟨kO (.map (E m1)) [(16,uY r),(26,.bool I)],[],Z⟩) (H1:=(cZ (jk r m l q (p.1,jb .u8 p.2)) (bA I m1 l))) (TrX.region 7 ?_) ?_)
 ·rw[show t8 (bO (cq QZ)).size=[0]++[1,2,3,4,5] by kernel_rfl]
  exact OX.append (OX.ahx (p:=p) (dst:=E 19) (it:=.tmp 16) a (λ_ _ _ h=>h.1) rfl rfl rfl) (OX.i3 (eJ []) K F (aaH _) (Ts ..) rfl)
 ·rw[show t8 (bO (cq (br QZ))).size=[0,1]++([2]++[3,4]) by kernel_rfl]
  refine OX.append (OX.i3 (s':=⟨kO (.map (E m1)) [(7,.r5 0),(16,uY r),(22,.nl (.map (E m1))),(23,.t6 p.1)],[.b [.t5 p.2]],Z⟩) (eJ []) K F (aaH _) (Tt ..) rfl) (OX.append (OX.ax9 (dst:=E 24) (t:=97) (kt:=3) (et:=25) (xm:=.tmp 22) (xk:=.tmp 23) (z:=jb .u8 cG) (v:=.agg [.t5 p.2]) (l:=l) (m:=m1) (x:=p.1) I (λ_ _ _ h=>h.2) rfl rfl rfl rfl rfl rfl rfl λe=>?_) (OX.i3 (eJ [(26,I)]) K F (aaH _) (Tu ..) ?_))
  ·rw[Rp hk _ hp];exact CO e a
  ·rw[Me a,Me (rfl:p.2=p.2)];rfl
 ·exact TrX.i4 (eJ []) K F (aaH _) (Tv ..) rfl
def Tx(d:nJ l)(a:RM l):
  TrX Q Y 0 BD ⟨kO (.map (E m1)) [(16,uY r)],[],Z⟩ (cZ (iG r m l (q+1)) (bA I m1 l)) .normal ⟨kO (.map (E m1)) [(16,uY r)],[],Z⟩ (cZ (iG r m l q) (bA I m1 l)):=by
 rw[air]
 refine nX.region 5 (F:=λ_:Int×pD=>⟨kO (.map (E m1)) [(16,uY r),(18,.bool Z)],[],Z⟩) (G:=λp=>cZ (WH (EB l p)) (cZ (jk r m l q (p.1,jb .u8 p.2)) (bA I m1 l))) ?_ λp=>?_
 ·rw[show t8 (bO (cq BD)).size=[0]++[1] by kernel_rfl]
  refine nX.then (nX.apD (dst:=E 17) (it:=.tmp 16) a rfl rfl rfl) λp=>?_
  exact OX.i3 (eJ []) (cZ.bJ (EB.bJ l p) (cZ.bJ (jk.bJ r m l q (p.1,jb .u8 p.2)) (bA.bJ I m1 l))) (cZ.cj (EB.cj l p) (cZ.cj (jk.cj r m l q (p.1,jb .u8 p.2)) (bA.cj I m1 l))) (aaH _) (Tp ..) rfl
 ·refine TrX.pure (q:=(p.1,jb .u8 p.2)∈l/\A p.2=32) (λ_ h=>h) λ⟨c,b⟩=>?_
  have K:=cZ.bJ (jk.bJ r m l q (p.1,jb .u8 p.2)) (bA.bJ I m1 l)
  have F:=cZ.cj (jk.cj r m l q (p.1,jb .u8 p.2)) (bA.cj I m1 l)
  refine TrX.Bb (H1:=cZ (jk r m l q (p.1,jb .u8 p.2)) (bA I m1 l)) ?_ λ_ _ _ h=>⟨h.1.Bb,h.2⟩
  exact TrX.seq (TrX.i4 (s':=⟨kO (.map (E m1)) [(16,uY r)],[],Z⟩) (eJ []) K F (aaH _) (Tq ..) rfl) (TrX.cz (aaW d c b) (by simp))
def Ty{v H}(K:fT H)(F:gj H):TrX Q Y 0 BD ⟨kO v [(16,uY r)],[],Z⟩ (cZ (iG r m l 0) H) (.exit 0) ⟨ag 27 [],[],Z⟩ TH:=by have K:=cZ.bJ (iG.bJ r m l 0) K;have F:=cZ.cj (iG.cj r m l 0) F;rw[aaV];refine TrX.Bb (TrX.seq (s1:=⟨ag 27 [(18,.bool I)],[],Z⟩) (TrX.region 5 ?_) (TrX.i4 (eJ []) K F (aaH _) (To ()) rfl)) λ_ _ _ _=>trivial;rw[show t8 (bO (cq BD)).size=[0]++[1] by kernel_rfl];exact OX.append (OX.aav (it:=.tmp 16) rfl rfl rfl) (OX.i3 (eJ []) K F (aaH _) (Tm v r) rfl)
def aaX{v CN l1}(b:∀r,jE Q Y 0 BD ⟨kO v [(16,uY r)],[],Z⟩ (cZ (iG r m l (A l)) (bA CN m1 l1)) (.exit 0) ⟨ag 27 [],[],Z⟩ TH):
  TrX Q Y 0 saR ⟨kO v [(5,eV m)],[],Z⟩ (cZ (bA Z m l) (bA CN m1 l1)) .ret ⟨ag 27 [(4,.bool Z)],[],Z⟩ TH:=by have K:=cZ.bJ (bA.bJ Z m l) (bA.bJ CN m1 l1);have F:=cZ.cj (bA.cj Z m l) (bA.cj CN m1 l1);rw[aiq];refine TrX.seq (nX.region 4 (F:=λr=>⟨bK (kO v [(15,eV m)]) (E 16) (uY r),[],Z⟩) (G:=λr=>cZ (iG r m l (A l)) (bA CN m1 l1)) ?_ λr=>TrX.pre (s1:=⟨kO v [(16,uY r)],[],Z⟩) (cZ.cj (iG.cj r m l (A l)) (bA.cj CN m1 l1)) (TrX.block (jE.loop (b r))) (bG.cut (live:=[0,16]) (n:=0) (aaH _) rfl)) (TrX.i4 (eJ []) TH.bJ TH.cj (aaH _) (Tl ()) rfl);rw[show t8 (bO (cq (cq saR))).size=[0]++[1] by kernel_rfl];refine OX.Kg (OX.i3 (s':=⟨kO v [(15,eV m)],[],Z⟩) (eJ []) K F (aaH _) (Tk v m) rfl) ?_;exact nX.ahw (dst:=E 16) (t:=97) (kt:=3) (et:=25) (x:=.tmp 15) rfl rfl rfl rfl
def Tz{v H1 CN}{m1:Nat->Nat}{l1 n1}(hn:n<=100000)(hf:∀k,(f k).2.length=32)(o:fT H1)(p:gj H1)(t:(v=.map Y/\n1=0)\/∃m1 l1,v=.map (E m1)/\n1=(A l1:Int)/\∀B e w,H1 B e w->bA I m1 l1 B e w)(s:n1=(A (gF f n):Int))
  (h1:∀m B e w,cZ (bA Z m (gF f n)) H1 B e w->bA CN (m1 m) l1 B e w)
  (hv:∀m r,jE Q Y 0 BD ⟨kO v [(16,uY r)],[],Z⟩ (cZ (iG r m (gF f n) (A (gF f n))) (bA CN (m1 m) l1)) (.exit 0) ⟨ag 27 [],[],Z⟩ TH):
  fu Q Y 0 QY ⟨aU f64.ntmps [.nl v,.aO I 33 n (iA f)],[],Z⟩ H1 .ret (λ_:Nat=>⟨ag 27 [(4,.bool Z)],[],Z⟩) (λ_=>TH):=by
 have K:=λm=>cZ.bJ (bA.bJ Z m (gF f n)) o
 have F:=λm=>cZ.cj (bA.cj Z m (gF f n)) p
 rw[aio]
 refine fu.seq (TrX.i4 (s':=⟨kO v [(1,.aO I 33 n (iA f))],[],Z⟩) (eJ []) o p (aaH _) (Td ..) rfl) ?_
 refine fu.EC (S:=λm=>⟨kO v [(5,eV m)],[],Z⟩) (G:=λm=>cZ (bA Z m (gF f n)) H1) (nX.CP 1 ?_) λm=>?_
 ·rw[show t8 (bO (cq (br QY))).size=[0]++([1]++[2]) by kernel_rfl]
  refine OX.Kg (OX.i3 (s':=⟨kO v [(8,.aO I 33 n (iA f))],[],Z⟩) (eJ []) o p (aaH _) (Te ..) rfl) ?_
  refine nX.then (nX.Rv func102 (by decide) rfl (aaU hn hf) rfl (λm=>bA.low _ _ _) o p (λ_ _ _ _=>trivial) (dst:=E 9) (x:=.func 102) (ty:=#[121]) (a:=#[.tmp 8]) rfl rfl rfl rfl) λm=>?_
  exact OX.i3 (eJ []) (K m) (F m) (aaH _) (Tf ..) rfl
 ·refine TrX.seq (s1:=⟨kO v [(5,eV m)],[],Z⟩) (H1:=cZ (bA Z m (gF f n)) H1) ?_ (TrX.ahA (aaX (CN:=CN) (m1:=m1 m) (l1:=l1) (hv m)) λB e w h=>⟨h.1,h1 m B e w h⟩)
  rw[aip]
  refine TrX.seq (s1:=⟨kO v [(5,eV m),(14,.bool I)],[],Z⟩) (H1:=cZ (bA Z m (gF f n)) H1) (TrX.region 2 ?_) (TrX.i4 (eJ []) (K m) (F m) (aaH _) (Tj v m) rfl)
  rw[show t8 (bO (cq saK)).size=[0]++([1]++([2]++([3]++[4]))) by kernel_rfl]
  refine OX.append (OX.i3 (s':=⟨kO v [(5,eV m),(10,.nl v)],[],Z⟩) (eJ []) (K m) (F m) (aaH _) (Tg v m) rfl) ?_
  refine OX.append (OX.qw (dst:=E 11) (ty:=97) (kt:=3) (et:=25) (x:=.tmp 10) (v:=v) (n:=n1) rfl rfl rfl rfl (t.imp id λ⟨a,b,c,d,g⟩=>⟨a,b,c,d,λB e w h=>g B e w h.2⟩)) ?_
  refine OX.append (OX.i3 (s':=⟨kO v [(5,eV m),(11,.t6 n1),(12,eV m)],[],Z⟩) (eJ []) (K m) (F m) (aaH _) (Th ..) rfl) ?_
  refine OX.append (OX.qw (dst:=E 13) (ty:=97) (kt:=3) (et:=25) (x:=.tmp 12) (v:=.map (E m)) (n:=n1) rfl rfl rfl rfl (.inr ⟨m,gF f n,rfl,s,λB e w h=>⟨λq=>(by cases q),h.1.2⟩⟩)) ?_
  exact OX.i3 (eJ [(14,I)]) (K m) (F m) (aaH _) (Ti ..) (by simp[aa])
def yt(u:n<=100000)(j:∀k,(f k).2.length=32) m1:
  eL prog 64 [.nl (.map (E m1)),.aO I 33 n (iA f)] [] (Et m1 (gF f n)) (λ_:Nat=>.bool Z) (λ_=>TH):=by
 have g:=Tz u j (bA.bJ _ _ _) (bA.cj _ _ _) (.inr ⟨m1,gF f n,rfl,rfl,λ_ _ _ h=>h⟩) rfl (λ_ _ _ _ h=>h.2) λm r=>by
  have h:=jE.for (x:=.exit 0) (by simp) (λ_=>⟨kO (.map (E m1)) [(16,uY r)],[],Z⟩) (λi=>cZ (iG r m (gF f n) (A (gF f n)-i)) (bA I m1 (gF f n))) (A (gF f n)) (λi hi=>by have:=Tx (m:=m) (m1:=m1) (r:=r) (q:=A (gF f n)-(i+1)) (EN f n) (EO j n);rw[show(gF f n).length-(i+1)+1=A (gF f n)-i by omega] at this;exact this) (by rw[Nat.sub_self];exact Ty (bA.bJ I m1 (gF f n)) (bA.cj I m1 (gF f n)))
  exact h
 refine eL.of (S:=λ_:Nat=>⟨ag 27 [(4,.bool Z)],[],Z⟩) (vs:=λ_=>[.bool Z]) func64 (c:=QY) rfl (.inl rfl) (λ_=>TH.low) (λ_=>TH.CL) (λB e w t d Q s hB o R hH p=>g B e w t d Q s hB o R ⟨λq=>(by cases q),hH⟩ p) (λ_=>rfl) (λ_=>by kernel_rfl)
def eL.th{fi args p v}(hp:∀w,p w)(h:eL Q fi args [] p (λ_:Nat=>v) (λ_=>TH)):ak Q fi args [] v []:=by intro B e w a hB hl R;refine(h B e w a hB hl R (hp w)).mono ?_;rintro en w' ⟨d,_,rfl,e',hv,S,_⟩;exact⟨d,rfl,{e' with m:=e.m},rfl,VR.mono (e:=e') (e':={e' with m:=e.m}) ⟨λ_ _ h=>h,λ_ _ h=>h,aar _⟩ hv,S⟩
def TA(g:∀k,(f k).2.length=32):ak prog 64 [.nl (.map Y),.aO I 33 0 (iA f)] [] (.bool Z) []:=by
 have a:=Tz (aaH _) g TH.bJ TH.cj (.inl ⟨rfl,rfl⟩) rfl (λ_ _ _ _ h=>h.1) λm r=>by have h:=jE.for (by simp) (λ_=>⟨kO (.map Y) [(16,uY r)],[],Z⟩) (λ_=>cZ (iG r m [] 0) (bA Z m [])) 0 (λi hi=>by omega) (Ty (bA.bJ Z m []) (bA.cj Z m []));exact h
 exact eL.th (λ_=>trivial) (eL.of (vs:=λ_=>[.bool Z]) func64 (c:=QY) rfl (.inl rfl) (λ_=>TH.low) (λ_=>TH.CL) (λB e w s d Q t hB j R _ o=>a B e w s d Q t hB j R trivial o) (λ_=>rfl) (λ_=>by kernel_rfl))
end
end Fo
namespace Pa
open Sy Tr Mk
def unS(g:Nat->List SV):Nat->Nat:=λk=>match g k with
 | [_,.aO _ _ m _]=>m
 |_=>0
attribute [local instance low] Classical.propDecidable
def TB:aK Q:=.val 13 _ func13 (by decide) rfl I 0 (λvs=>match vs with
 | []=>E (.bool Z,[],Z)
 |_=>Y) λvs v new e=>by
 split at e
 ·simp only[Mf,aad] at e;have⟨rfl,rfl,_⟩:=e;exact Iy
 ·cases e
section
variable {N:Nat} {t:Nat->aE} {i:Int} {u:Bool} {nm:Int} {k sg p un:pD} {S:Nat} {ks:Nat->pD} {sv:Nat->Nat}
end
end Pa
namespace Fo
open Sy Sh La Re Tr Pa Mk Wi
attribute [local instance low] Classical.propDecidable
def yS{f fn}(c:prog.funcs[f]?=E fn)(d:(fn.name != "runtime.NumGoroutine")=Z)(b:fn.body.isSome=Z)(nb:Nat){args v new}(h:ak Q f args [] v new):aK Q:=
 .val f fn c d b Z nb (λvs=>E (v,new,C (vs=args))) λvs g a e=>by simp only[Mf,aad,aac] at e;have⟨rfl,rfl,rfl⟩:=e;exact h
abbrev qu(N:Nat)(t:Nat->aE)(i:Int)(lf pt nf:pD)(D:Nat)(ds:Nat->pD)(wo:pD):List SV:=[.p4 I N t,.t6 i,.t5 lf,.t5 pt,.ro I .u8 nf,.aO I 32 D (eI ds),.ro I .i64 wo]
def lgC(l:List (Nat×Bool)):cu:=mk [aaY] [] (uT l)
def zc l:aq Q (lgC l):=au _ aN.nil _ _
def azC N t i lf pt nf D ds wo:(aV Q (lgC [(5,Z),(10,Z),(16,Z),(22,Z)]) 60 f21 [.agg (qu N t i lf pt nf D ds wo)] []).v3=E (.bool Z,aa (aa Z (aa Z (x9 N λi=>ah (aA t i)))) (jF N (ai λi=>ah (aA t i)))):=by kernel_rfl
def azD N t i lf pt nf D ds wo:(aV Q (lgC [(5,I),(10,Z),(16,Z),(22,Z)]) 60 f21 [.agg (qu N t i lf pt nf D ds wo)] []).v3=E (.bool Z,aa (aa (aa Z (aa Z (x9 N λi=>ah (aA t i)))) !jF N (ai λi=>ah (aA t i))) (C ((A nf:Int)>500))):=by kernel_rfl
def azE N t i lf pt nf D ds wo:(aV Q (lgC [(5,I),(10,I),(16,Z),(22,Z)]) 60 f21 [.agg (qu N t i lf pt nf D ds wo)] []).v3=E (.bool Z,aa (aa (aa (aa Z (aa Z (x9 N λi=>ah (aA t i)))) !jF N (ai λi=>ah (aA t i))) !C ((A nf:Int)>500)) (C ((D:Int)>60))):=by kernel_rfl
def azF N t i lf pt nf D ds wo:(aV Q (lgC [(5,I),(10,I),(16,I),(22,Z)]) 60 f21 [.agg (qu N t i lf pt nf D ds wo)] []).v3=E (.bool Z,aa (aa (aa (aa (aa Z (aa Z (x9 N λi=>ah (aA t i)))) !jF N (ai λi=>ah (aA t i))) !C ((A nf:Int)>500)) !C ((D:Int)>60)) (C ((A wo:Int)>40))):=by kernel_rfl
def azG N t i lf pt nf D ds wo:(aV Q (lgC [(5,I),(10,I),(16,I),(22,I)]) 60 f21 [.agg (qu N t i lf pt nf D ds wo)] []).v3=E (.bool I,aa (aa (aa (aa (aa Z (aa Z (x9 N λi=>ah (aA t i)))) !jF N (ai λi=>ah (aA t i))) !C ((A nf:Int)>500)) !C ((D:Int)>60)) !C ((A wo:Int)>40)):=by kernel_rfl
end Fo
namespace Fo
open Sy Sh La Re Tr Pa Mk Wi
attribute [local instance low] Classical.propDecidable
def lgM(N:Nat)(t:Nat->aE)(nf:pD)(D:Nat)(wo:pD):Bool:=jF N t||C ((A nf:Int)>500)||C ((D:Int)>60)||C ((A wo:Int)>40)
section
variable {N:Nat} {t:Nat->aE} {i:Int} {lf pt nf:pD} {D:Nat} {ds:Nat->pD} {wo:pD}
def Oy(g:x9 N (aA t)=Z):ak Q 21 [.agg (qu N t i lf pt nf D ds wo)] [] (.bool (lgM N t nf D wo)) []:=by
 have a:x9 N (λi=>ah (aA t i))=Z:=g
 have b:(ai λi=>ah (aA t i))=t:=rfl
 unfold lgM
 cases c:jF N t with
 |true=>exact aP (zc _) 60 func21 (azC N t i lf pt nf D ds wo) (by rw[b,a,c];rfl) rfl
 |false=>
 cases d:C ((A nf:Int)>500) with
 |true=>exact aP (zc _) 60 func21 (azD N t i lf pt nf D ds wo) (by rw[b,a,c,d];rfl) rfl
 |false=>
 cases e:C ((D:Int)>60) with
 |true=>exact aP (zc _) 60 func21 (azE N t i lf pt nf D ds wo) (by rw[b,a,c,d,e];rfl) rfl
 |false=>
 cases h:C ((A wo:Int)>40) with
 |true=>exact aP (zc _) 60 func21 (azF N t i lf pt nf D ds wo) (by rw[b,a,c,d,e,h];rfl) rfl
 |false=>exact aP (zc _) 60 func21 (azG N t i lf pt nf D ds wo) (by rw[b,a,c,d,e,h];rfl) rfl
end
def afK:List (FuncId×Func):=[(18,f18)]
def TC:aN Q afK:=aN.cons func18 (by decide) aN.nil
def nN(a:List (aK Q))(l:List (Nat×Bool)):cu:=mk (TB::EH::wv::a) afK (uT l)
def eP E(l:List (Nat×Bool)):aq Q (nN E l):=au _ TC _ _
def A3:Code:=aI f20
abbrev LgP(N:Nat)(t:Nat->aE)(i:Int)(lf pt nf:pD)(D:Nat)(ds:Nat->pD)(wo:pD)(b:Bool):Prop:=ak Q 21 [.agg (qu N t i lf pt nf D ds wo)] [] (.bool b) []
abbrev lgT{N:Nat}{t:Nat->aE}{i}{lf pt nf:pD}{D:Nat}{ds}{wo:pD}{b}(h:LgP N t i lf pt nf D ds wo b):aK Q:=yS func21 (by decide) rfl 0 h
abbrev OB(N:Nat)(t:Nat->aE)(i:Int)(lf pt:pD)(v:SV)(new:List Blk):Prop:=ak Q 24 [.p4 I N t,.t6 i,.sM lf,.sM pt] [] v new
abbrev Ie{N:Nat}{t:Nat->aE}{i}{lf pt:pD}{v new}(h:OB N t i lf pt v new):aK Q:=yS func24 (by decide) rfl 1 h
abbrev Ox(N:Nat)(t:Nat->aE)(i own:Int)(s:pD)(cm:Bool)(v:SV):Prop:=ak Q 60 [.p4 I N t,.t6 i,.t6 own,.sM s,.bool cm] [] v []
abbrev fmT{N:Nat}{t:Nat->aE}{i own}{s:pD}{cm v}(h:Ox N t i own s cm v):aK Q:=yS func60 (by decide) rfl 0 h
abbrev Ow(N:Nat)(t:Nat->aE)(i own:Int)(s:pD)(v:SV):Prop:=ak Q 63 [.p4 I N t,.t6 i,.t6 own,.sM s] [] v []
abbrev aag{N:Nat}{t:Nat->aE}{i own:Int}{s:pD}{v}(h:Ow N t i own s v):aK Q:=yS func63 (by decide) rfl 0 h
abbrev faA(N:Nat)(t:Nat->aE)(i:Int)(lf pt nf:pD)(D:Nat)(ds:Nat->pD)(wo:pD)(own:Int)(s:pD)(cm:Bool):List SV:=[.agg (qu N t i lf pt nf D ds wo),.t6 own,.sM s,.bool cm]
def QN:Code:=br (br (br (br (br (br A3)))))
def Ki:Code:=aj (aj (br (cq QN)))
def faH(N:Nat)(t U:Nat->aE)(i:Int)(lf pt nf:pD)(D:Nat)(ds:Nat->pD)(wo s d a:pD)(M:Nat)(c:Nat->pD):List Blk:=[.b (qu N t i lf pt nf D ds wo),.b [.t5 s],.b [.aF 32 M (eI c)],.b (HI (.p4 Z N U) lf d M 2 a)]
def axW(N:Nat)(t:Nat->aE)(i:Int)(lf pt nf:pD)(D:Nat)(ds:Nat->pD)(wo:pD)(own:Int)(s:pD) cm(h1:LgP N t i lf pt nf D ds wo Z):(aV Q (nN [lgT h1] []) 60 f20 (faA N t i lf pt nf D ds wo own s cm) []).v3=E (.bool Z,aa Z (aa Z (C ([SV.agg [SV.aO I 99 N λi=>ah (aA t i),SV.int IntKind.i64 i,SV.af IntKind.u8 32 lf,SV.af IntKind.u8 32 pt,SV.ro I IntKind.u8 nf,SV.aO I 32 D λi=>ah (eI ds i),SV.ro I IntKind.i64 wo]]=[SV.agg (qu N t i lf pt nf D ds wo)])))):=by kernel_rfl
def axZ(N:Nat)(t:Nat->aE)(i:Int)(lf pt nf:pD)(D:Nat)(ds:Nat->pD)(wo:pD)(own:Int)(s:pD) cm(h1:LgP N t i lf pt nf D ds wo I)(h2:OB N t i lf pt (.bP [.agg plZ,.t6 3]) [])(a:Ox N t i own s cm (vZ 3)):(aV Q (nN [lgT h1,Ie h2,fmT a] []) 60 f20 (faA N t i lf pt nf D ds wo own s cm) []).v3=E (.bool Z,aa (aa (aa Z (aa Z (C ([SV.agg [SV.aO I 99 N λi=>ah (aA t i),SV.int IntKind.i64 i,SV.af IntKind.u8 32 lf,SV.af IntKind.u8 32 pt,SV.ro I IntKind.u8 nf,SV.aO I 32 D λi=>ah (eI ds i),SV.ro I IntKind.i64 wo]]=[SV.agg (qu N t i lf pt nf D ds wo)])))) (aa Z (C ([SV.aO I 99 N λi=>ah (aA t i),SV.int IntKind.i64 i,SV.agg [SV.af IntKind.u8 32 lf],SV.agg [SV.af IntKind.u8 32 pt]]=[SV.aO I 99 N (aA t),SV.int IntKind.i64 i,SV.agg [SV.af IntKind.u8 32 lf],SV.agg [SV.af IntKind.u8 32 pt]])))) (aa Z (C ([SV.aO I 99 N λi=>ah (aA t i),SV.int IntKind.i64 i,SV.int IntKind.i64 own,SV.agg [SV.af IntKind.u8 32 s],SV.bool cm]=[SV.aO I 99 N (aA t),SV.int IntKind.i64 i,SV.int IntKind.i64 own,SV.agg [SV.af IntKind.u8 32 s],SV.bool cm])))):=by kernel_rfl
def ax0(N:Nat)(t:Nat->aE)(i:Int)(lf pt nf:pD)(D:Nat)(ds:Nat->pD)(wo:pD)(own:Int)(s:pD) cm(h1:LgP N t i lf pt nf D ds wo I)(h2:OB N t i lf pt (.bP [.agg plZ,.t6 9]) [])(a:Ox N t i own s cm (vZ 9)):(aV Q (nN [lgT h1,Ie h2,fmT a] []) 60 f20 (faA N t i lf pt nf D ds wo own s cm) []).v3=E (.bool Z,aa (aa (aa Z (aa Z (C ([SV.agg [SV.aO I 99 N λi=>ah (aA t i),SV.int IntKind.i64 i,SV.af IntKind.u8 32 lf,SV.af IntKind.u8 32 pt,SV.ro I IntKind.u8 nf,SV.aO I 32 D λi=>ah (eI ds i),SV.ro I IntKind.i64 wo]]=[SV.agg (qu N t i lf pt nf D ds wo)])))) (aa Z (C ([SV.aO I 99 N λi=>ah (aA t i),SV.int IntKind.i64 i,SV.agg [SV.af IntKind.u8 32 lf],SV.agg [SV.af IntKind.u8 32 pt]]=[SV.aO I 99 N (aA t),SV.int IntKind.i64 i,SV.agg [SV.af IntKind.u8 32 lf],SV.agg [SV.af IntKind.u8 32 pt]])))) (aa Z (C ([SV.aO I 99 N λi=>ah (aA t i),SV.int IntKind.i64 i,SV.int IntKind.i64 own,SV.agg [SV.af IntKind.u8 32 s],SV.bool cm]=[SV.aO I 99 N (aA t),SV.int IntKind.i64 i,SV.int IntKind.i64 own,SV.agg [SV.af IntKind.u8 32 s],SV.bool cm])))):=by kernel_rfl
def axY(N:Nat)(t U:Nat->aE)(i:Int)(lf pt nf:pD)(D:Nat)(ds:Nat->pD)(wo:pD)(own:Int)(s:pD) cm(d a:pD)(M:Nat)(c:Nat->pD)(h1:LgP N t i lf pt nf D ds wo I)(h2:OB N t i lf pt (.bP [.agg (HI (.p4 Z N U) lf d M 0 a),.t6 0]) [.b [.aF 32 M (eI c)]]):jd (az [1,3,4,6,9] 4 ((bh Q (nN [lgT h1,Ie h2] [(63,I)]) 60 0 6 [cq A3,cq (br A3),cq (br (br A3)),cq (br (br (br A3))),cq (br (br (br (br A3)))),cq (br (br (br (br (br A3)))))] ⟨aU f20.ntmps (faA N t i lf pt nf D ds wo own s cm),[],Z⟩).x3))=E (.normal,ag 140 [(1,.t6 own),(3,.bool cm),(4,.r5 0),(6,.r5 1),(9,.r5 3)],faH N t U i lf pt nf D ds wo s d a M c):=by kernel_rfl
def apu(N:Nat)(t U:Nat->aE)(i:Int)(lf pt nf:pD)(D:Nat)(ds:Nat->pD)(wo:pD)(own:Int)(s:pD) cm(d a:pD)(M:Nat)(c:Nat->pD)(h1:LgP N t i lf pt nf D ds wo I)(h2:OB N t i lf pt (.bP [.agg (HI (.p4 Z N U) lf d M 0 a),.t6 0]) [.b [.aF 32 M (eI c)]]):uF (az [1,3,4,6,9] 4 ((bh Q (nN [lgT h1,Ie h2] [(63,I)]) 60 0 6 [cq A3,cq (br A3),cq (br (br A3)),cq (br (br (br A3))),cq (br (br (br (br A3)))),cq (br (br (br (br (br A3)))))] ⟨aU f20.ntmps (faA N t i lf pt nf D ds wo own s cm),[],Z⟩).x3))=(aa (aa (aa (aa (aa (aa Z (aa Z (C ([SV.agg [SV.aO I 99 N λi=>ah (aA t i),SV.int IntKind.i64 i,SV.af IntKind.u8 32 lf,SV.af IntKind.u8 32 pt,SV.ro I IntKind.u8 nf,SV.aO I 32 D λi=>ah (eI ds i),SV.ro I IntKind.i64 wo]]=[SV.agg (qu N t i lf pt nf D ds wo)])))) (aa Z (C ([SV.aO I 99 N λi=>ah (aA t i),SV.int IntKind.i64 i,SV.agg [SV.af IntKind.u8 32 lf],SV.agg [SV.af IntKind.u8 32 pt]]=[SV.aO I 99 N (aA t),SV.int IntKind.i64 i,SV.agg [SV.af IntKind.u8 32 lf],SV.agg [SV.af IntKind.u8 32 pt]])))) (aa Z (C (A s=32)))) (aa Z (C (A s=32)))) (aa (C (A (iL dc s)=32)) (C (A (iL dc s)=32)))) !!C (iL dc s=iL dc s)):=by kernel_rfl
def TD(N:Nat)(t U:Nat->aE)(i:Int)(lf pt nf:pD)(D:Nat)(ds:Nat->pD)(wo:pD)(own:Int)(s:pD) cm(b a:pD)(M:Nat)(c:Nat->pD):aD (az [1,3,4,6,9,65] 4 ((cg Q (c7 Q (nN [] []) λk=>Sy.exec Q (nN [] []) 60 k) (nN [] []).sym (nN [] []).eZ 4 (bO (cq (cq QN))) [0,1] ⟨ag 140 [(1,.t6 own),(3,.bool cm),(4,.r5 0),(6,.r5 1),(9,.r5 3)],faH N t U i lf pt nf D ds wo s b a M c,Z⟩).x3))=(E (.normal,ag 140 [(1,.t6 own),(3,.bool cm),(4,.r5 0),(6,.r5 1),(9,.r5 3),(65,.b9 2 32 M M I)],faH N t U i lf pt nf D ds wo s b a M c),(Z)):=by kernel_rfl
end Fo
namespace Fo
open Sy Sh La Re Tr Pa Mk Wi
attribute [local instance low] Classical.propDecidable
def gf(own:Int)(cm:Bool)(M:Nat)(j:Int)(x:List (Nat×SV)):List (Option SV):=ag 140 ([(1,.t6 own),(3,.bool cm),(4,.r5 0),(9,.r5 3),(68,.b9 2 32 (M+1) (M+1) I),(69,.t6 ((M+1:Nat):Int)),(70,.t6 j)]++x)
def gE(N:Nat)(t U:Nat->aE)(i:Int)(lf pt nf:pD)(D:Nat)(ds:Nat->pD)(wo:pD)(M:Nat)(sq:Nat->pD):List Blk:=[.b (qu N t i lf pt nf D ds wo),.b [],.b [.aF 32 (M+1) (eI sq)],.b [.p4 Z N U]]
def uN:Code:=aj (cq (br (br Ki)))
abbrev aaZ(v:SV)(n:Nat)(f:Nat->Int×pD):Prop:=ak Q 64 [v,.aO I 33 n (iA f)] [] (.bool Z) []
abbrev ait{v}{n:Nat}{f}(h:aaZ v n f):aK Q:=yS func64 (by decide) rfl 0 h
def Rw:Code:=br (br (br (br uN)))
def faK:Code:=cq Rw
def QM:Code:=br (br Rw)
def faO:Code:=aj (aj (br faK))
abbrev CJ(c:Int):Prop:=ak Q 18 [.iface 112 (.t6 c)] [] (.t6 c) []
abbrev aiu{c:Int}(h:CJ c):aK Q:=yS func18 (by decide) rfl 0 h
def fbC(a:List (aK Q))(l:List (Nat×Bool)):cu:=mk a [] (uT l)
def Ig E l:aq Q (fbC E l):=au _ aN.nil _ _
def TE(N:Nat) t U(i:Int) lf pt nf(D:Nat) ds wo s(own:Int) cm(M:Nat) c:aD (az [1,3,4,9,68,69,70] 4 ((cg Q (c7 Q (nN [] []) λk=>Sy.exec Q (nN [] []) 60 k) (nN [] []).sym (nN [] []).eZ 0 (bO (cq (cq QN))) [2,3,4,5,6] ⟨ag 140 [(1,.t6 own),(3,.bool cm),(4,.r5 0),(6,.r5 1),(9,.r5 3),(65,.b9 2 32 M M I)],[.b (qu N t i lf pt nf D ds wo),.b [.t5 s],.b [.aF 32 M (eI c)],.b [.p4 Z N U]],Z⟩).x3))=(E (.normal,gf own cm M 0 [],[.b (qu N t i lf pt nf D ds wo),.b [.t5 s],.b [.aF 32 (M+1) λi=>bF ((i+1).ble M) (eI c i) [.t5 s]],.b [.p4 Z N U]]),(aa Z (aa (aa Z (C (M<=M))) (C (M+1<=2^38))))):=by kernel_rfl
def TF N t U i lf pt nf D ds wo own cm M sq j:aD (az [] 0 (exec Q (nN [] [(71,I)]) 60 4 Ki ⟨gf own cm M j [],gE N t U i lf pt nf D ds wo M sq,Z⟩))=(E (.exit 0,ag 140 [],[]),(aa Z !C (j<(((M+1):Nat):Int)))):=by kernel_rfl
def TG(_u:Unit):aD (az [8] 0 (exec Q (nN [] []) 60 0 (br QN) ⟨ag 140 [],[],Z⟩))=(E (.ret,ag 140 [(8,.bool Z)],[]),(Z)):=by kernel_rfl
def TI N t U i lf pt nf D ds wo own cm M sq j:aD (az [1,3,4,9,68,69,70] 4 ((bh Q (nN [] [(71,Z)]) 60 4 2 [cq Ki,cq (br Ki)] ⟨gf own cm M j [],gE N t U i lf pt nf D ds wo M sq,Z⟩).x3))=(E (.normal,gf own cm M j [],gE N t U i lf pt nf D ds wo M sq),(aa Z (C (j<(((M+1):Nat):Int))))):=by kernel_rfl
def TJ N t U i lf pt nf D ds wo own cm M sq j:aD (az [1,3,4,9,68,69,70] 4 (exec Q (nN [] []) 60 4 (br (br (br Ki))) ⟨gf own cm M j [],gE N t U i lf pt nf D ds wo M sq,Z⟩))=(E (.normal,gf own cm M (i64.wrap (j+1)) [],gE N t U i lf pt nf D ds wo M sq),(Z)):=by kernel_rfl
def apf N t U i lf pt nf D ds wo own cm M sq j:=bu (TJ N t U i lf pt nf D ds wo own cm M sq j)
def afi N t U i lf pt nf D ds wo own cm M sq j:=bz (TJ N t U i lf pt nf D ds wo own cm M sq j)
def TK N t U i lf pt nf D ds wo own cm M sq j c(d:Ox N U i own (sq (O j)) cm (vZ c))(a:Ow N U i own (sq (O j)) (tE c)):aD (az [1,3,4,9,68,69,70,16,17,18,19,21,22,23] 8 ((bh Q (fbC [fmT d,aag a] []) 60 4 4 [cq uN,cq (br uN),cq (br (br uN)),cq (br (br (br uN)))] ⟨gf own cm M j [],gE N t U i lf pt nf D ds wo M sq,Z⟩).x3))=(E (.normal,gf own cm M j [(16,.nl (.map Y)),(17,.r5 5),(18,.iface 112 (.t6 c)),(19,dx),(21,.r5 6),(22,.t6 c),(23,.sl 7 0 0 33 0 0 Z Z)],gE N t U i lf pt nf D ds wo M sq++[.b [.t5 (sq (O j))],.b [.t5 cG],.b [.t5 cG],.b []]),(aa (aa (aa (aa Z (bC j (M+1))) (Z&&(C (O j<M+1)&&Z))) (aa Z (C ([SV.aO I 99 N λi=>ah (aA U i),SV.int IntKind.i64 i,SV.int IntKind.i64 own,SV.agg [SV.af IntKind.u8 32 (sq (O j))],SV.bool cm]=[SV.aO I 99 N (aA U),SV.int IntKind.i64 i,SV.int IntKind.i64 own,SV.agg [SV.af IntKind.u8 32 (sq (O j))],SV.bool cm])))) (aa Z (C ([SV.aO I 99 N λi=>ah (aA U i),SV.int IntKind.i64 i,SV.int IntKind.i64 own,SV.agg [SV.af IntKind.u8 32 (sq (O j))]]=[SV.aO I 99 N (aA U),SV.int IntKind.i64 i,SV.int IntKind.i64 own,SV.agg [SV.af IntKind.u8 32 (sq (O j))]]))))):=by kernel_rfl
def azI N t U i lf pt nf D ds wo own cm M sq j c s f(d:aaZ (.nl (.map Y)) 0 f)(a:CJ c):jd (az [1,3,4,9,68,69,70] 4 (exec Q (fbC [aiu a,ait d] [(118,Z),(127,I)]) 60 8 Rw ⟨gf own cm M j [(16,.nl (.map Y)),(17,.r5 5),(18,.iface 112 (.t6 c)),(19,dx),(21,.r5 6),(22,.t6 c),(23,.b9 7 33 0 0 I)],gE N t U i lf pt nf D ds wo M sq++[.b [.t5 s],.b [.t5 cG],.b [.t5 cG],.b [.aF 33 0 (iA f)]],Z⟩))=E (.normal,gf own cm M j [],gE N t U i lf pt nf D ds wo M sq):=by kernel_rfl
def aq5 N t U i lf pt nf D ds wo own cm M sq j c s f(d:aaZ (.nl (.map Y)) 0 f)(a:CJ c):uF (az [1,3,4,9,68,69,70] 4 (exec Q (fbC [aiu a,ait d] [(118,Z),(127,I)]) 60 8 Rw ⟨gf own cm M j [(16,.nl (.map Y)),(17,.r5 5),(18,.iface 112 (.t6 c)),(19,dx),(21,.r5 6),(22,.t6 c),(23,.b9 7 33 0 0 I)],gE N t U i lf pt nf D ds wo M sq++[.b [.t5 s],.b [.t5 cG],.b [.t5 cG],.b [.aF 33 0 (iA f)]],Z⟩))=(aa (aa (aa (aa Z (c != 0)) (aa Z (C ([SV.iface 112 (SV.int IntKind.i64 c)]=[SV.iface 112 (SV.int IntKind.i64 c)])))) !c != c) (aa Z (C ([SV.nl (Value.map Y),SV.aO I 33 0 λi=>ah (iA f i)]=[SV.nl (Value.map Y),SV.aO I 33 0 (iA f)])))):=by kernel_rfl
end Fo
namespace Fo
open Sy Sh La Re Tr Pa Mk Wi
attribute [local instance low] Classical.propDecidable
abbrev ape(a:pD)(n:Nat)(b:Nat->pD)(cs:pD):SV:=.bP [.ro I .i64 a,.aO Z 32 n (eI b),.sM cs,.t6 0]
def A9(own:Int)(cm:Bool)(M:Nat)(j:Int)(m:Nat)(a:pD)(n:Nat)(b:Nat->pD)(x:List (Nat×SV)):List (Option SV):=gf own cm M j ([(16,eV m),(17,.r5 5),(18,.nl .nilIface),(19,.ro I .i64 a),(20,.aO Z 32 n (eI b)),(21,.r5 6),(22,.t6 0)]++x)
def TL N t U i lf pt nf D ds wo own cm M sq j:aD (az [1,3,4,9,68,69,70,15] 5 (exec Q (nN [] []) 60 4 (cq uN) ⟨gf own cm M j [],gE N t U i lf pt nf D ds wo M sq,Z⟩))=(E (.normal,gf own cm M j [(15,.r5 4)],gE N t U i lf pt nf D ds wo M sq++[.b [.t5 (sq (O j))]]),(aa (aa Z (bC j (M+1))) (Z&&(C (O j<M+1)&&Z)))):=by kernel_rfl
def axL N t U i lf pt nf D ds wo own cm M sq j:=bu (TL N t U i lf pt nf D ds wo own cm M sq j)
def apg N t U i lf pt nf D ds wo own cm M sq j:=bz (TL N t U i lf pt nf D ds wo own cm M sq j)
def TM N t U i lf pt nf D ds wo own cm M sq j s:aD (az [1,3,4,9,68,69,70,15,76,78,79,80,81] 5 ((cg Q (c7 Q (nN [] []) λk=>Sy.exec Q (nN [] []) 60 k) (nN [] []).sym (nN [] []).eZ 5 (bO (cq (br uN))) [0,1,2,3,4,5,6] ⟨gf own cm M j [(15,.r5 4)],gE N t U i lf pt nf D ds wo M sq++[.b [.t5 s]],Z⟩).x3))=(E (.normal,gf own cm M j [(15,.r5 4),(76,.p4 Z N U),(78,.t6 i),(79,.t6 own),(80,.sM s),(81,.bool cm)],gE N t U i lf pt nf D ds wo M sq++[.b [.t5 s]]),(Z)):=by kernel_rfl
def TN N t U i lf pt nf D ds wo own cm M sq j s m cv:aD (az [1,3,4,9,68,69,70,15,16,17,18] 6 ((cg Q (c7 Q (nN [] []) λk=>Sy.exec Q (nN [] []) 60 k) (nN [] []).sym (nN [] []).eZ 5 (bO (cq (br uN))) [8,9,10,11,12,13,14,15] ⟨bK (gf own cm M j [(15,.r5 4),(76,.p4 Z N U),(78,.t6 i),(79,.t6 own),(80,.sM s),(81,.bool cm)]) (E 82) (.bP [eV m,.sM cv,.nl .nilIface]),gE N t U i lf pt nf D ds wo M sq++[.b [.t5 s]],Z⟩).x3))=(E (.normal,gf own cm M j [(15,.r5 4),(16,eV m),(17,.r5 5),(18,.nl .nilIface)],gE N t U i lf pt nf D ds wo M sq++[.b [.t5 s],.b [.t5 cv]]),(Z)):=by kernel_rfl
def TO N t U i lf pt nf D ds wo own cm M sq j s m cv nd n dk cs(a:Ow N U i own s (ape nd n dk cs)):aD (az [1,3,4,9,68,69,70,16,17,18,19,20,21,22] 7 (exec Q (nN [aag a] []) 60 6 (cq (br (br uN))) ⟨gf own cm M j [(15,.r5 4),(16,eV m),(17,.r5 5),(18,.nl .nilIface)],gE N t U i lf pt nf D ds wo M sq++[.b [.t5 s],.b [.t5 cv]],Z⟩))=(E (.normal,A9 own cm M j m nd n dk [],gE N t U i lf pt nf D ds wo M sq++[.b [.t5 s],.b [.t5 cv],.b [.t5 cs]]),(aa Z (aa Z (C ([SV.aO I 99 N λi=>ah (aA U i),SV.int IntKind.i64 i,SV.int IntKind.i64 own,SV.agg [SV.af IntKind.u8 32 s]]=[SV.aO I 99 N (aA U),SV.int IntKind.i64 i,SV.int IntKind.i64 own,SV.agg [SV.af IntKind.u8 32 s]]))))):=by kernel_rfl
def TP N t U i lf pt nf D ds wo own cm M sq j s m cv nd n dk cs:aD (az [1,3,4,9,68,69,70,16,17,18,19,20,21,22,23] 8 (exec Q (nN [] []) 60 7 (cq (br (br (br uN)))) ⟨A9 own cm M j m nd n dk [],gE N t U i lf pt nf D ds wo M sq++[.b [.t5 s],.b [.t5 cv],.b [.t5 cs]],Z⟩))=(E (.normal,A9 own cm M j m nd n dk [(23,.sl 7 0 0 33 0 0 Z Z)],gE N t U i lf pt nf D ds wo M sq++[.b [.t5 s],.b [.t5 cv],.b [.t5 cs]]++[.b []]),(Z)):=by kernel_rfl
def TQ N t U i lf pt nf D ds wo own cm M sq j s m cv nd n dk cs f:aD (az [1,3,4,9,68,69,70,16,17,18,19,20,21,22,23,100,101] 8 (exec Q (nN [] []) 60 7 (cq faK) ⟨A9 own cm M j m nd n dk [(23,.b9 7 33 0 0 I)],gE N t U i lf pt nf D ds wo M sq++[.b [.t5 s],.b [.t5 cv],.b [.t5 cs]]++[.b [.aF 33 0 (iA f)]],Z⟩))=(E (.normal,A9 own cm M j m nd n dk [(23,.b9 7 33 (0) (0) I),(100,.t6 (A nd:Int)),(101,.t6 (0))],gE N t U i lf pt nf D ds wo M sq++[.b [.t5 s],.b [.t5 cv],.b [.t5 cs]]++[.b [.aF 33 (0) (iA f)]]),(Z)):=by kernel_rfl
def TS N t U i lf pt nf D ds wo own cm M sq j s m cv nd n dk cs f q x:aD (az [1,3,4,9,68,69,70,16,17,18,21,22,23] 8 (exec Q (nN [] [(102,I)]) 60 7 faO ⟨A9 own cm M j m nd n dk [(23,.b9 7 33 (q) (q) I),(100,.t6 (A nd:Int)),(101,.t6 (x))],gE N t U i lf pt nf D ds wo M sq++[.b [.t5 s],.b [.t5 cv],.b [.t5 cs]]++[.b [.aF 33 (q) (iA f)]],Z⟩))=(E (.exit 2,gf own cm M j [(16,eV m),(17,.r5 5),(18,.nl .nilIface),(21,.r5 6),(22,.t6 0),(23,.b9 7 33 q q I)],gE N t U i lf pt nf D ds wo M sq++[.b [.t5 s],.b [.t5 cv],.b [.t5 cs]]++[.b [.aF 33 q (iA f)]]),(aa Z !C (x<(A nd:Int)))):=by kernel_rfl
def TT N t U i lf pt nf D ds wo own cm M sq j s m cv nd n dk cs f q x:aD (az [1,3,4,9,68,69,70,16,17,18,19,20,21,22,23,100,101] 8 (exec Q (nN [] [(102,Z),(115,Z)]) 60 7 faO ⟨A9 own cm M j m nd n dk [(23,.b9 7 33 (q) (q) I),(100,.t6 (A nd:Int)),(101,.t6 (x))],gE N t U i lf pt nf D ds wo M sq++[.b [.t5 s],.b [.t5 cv],.b [.t5 cs]]++[.b [.aF 33 (q) (iA f)]],Z⟩))=(E (.normal,A9 own cm M j m nd n dk [(23,.b9 7 33 (q+1) (q+1) I),(100,.t6 (A nd:Int)),(101,.t6 (i64.wrap (x+1)))],gE N t U i lf pt nf D ds wo M sq++[.b [.t5 s],.b [.t5 cv],.b [.t5 cs]]++[.b [.aF 33 (q+1) (λk=>bF (Nat.ble (k+1) q) (iA f k) [.t6 (X nd (O x) 0),.t5 (dk (O x))])]]),(aa (aa (aa (aa (aa (aa Z (C (x<(A nd:Int)))) (bC x (A nd))) (C (O x<A nd))) (bC x n)) (Z&&(C (O x<n)&&Z))) (aa (aa Z (C (q<=q))) (C (q+1<=2^38))))):=by kernel_rfl
def axG N t U i lf pt nf D ds wo own cm M sq j s m cv nd n dk cs f q x:=bu (TT N t U i lf pt nf D ds wo own cm M sq j s m cv nd n dk cs f q x)
def ao7 N t U i lf pt nf D ds wo own cm M sq j s m cv nd n dk cs f q x:=bz (TT N t U i lf pt nf D ds wo own cm M sq j s m cv nd n dk cs f q x)
def KM N t U i lf pt nf D ds wo own M sq j s m n cv cs f:aD (az [1,3,4,9,68,69,70,16,17,18,21,22,23] 8 (exec Q (nN [] []) 60 8 (cq (br Rw)) ⟨gf own Z M j [(16,eV m),(17,.r5 5),(18,.nl .nilIface),(21,.r5 6),(22,.t6 0),(23,.b9 7 33 n n I)],gE N t U i lf pt nf D ds wo M sq++[.b [.t5 s],.b [.t5 cv],.b [.t5 cs]]++[.b [.aF 33 n (iA f)]],Z⟩))=(E (.normal,gf own Z M j [(16,eV m),(17,.r5 5),(18,.nl .nilIface),(21,.r5 6),(22,.t6 0),(23,.b9 7 33 n n I)],gE N t U i lf pt nf D ds wo M sq++[.b [.t5 s],.b [.t5 cv],.b [.t5 cs]]++[.b [.aF 33 n (iA f)]]),(Z)):=by kernel_rfl
def KN N t U i lf pt nf D ds wo own M sq j s m n cv cs f:aD (az [1,3,4,9,68,69,70,16,17,18,21,22,23] 8 (exec Q (nN [] []) 60 8 (cq (br Rw)) ⟨gf own I M j [(16,eV m),(17,.r5 5),(18,.nl .nilIface),(21,.r5 6),(22,.t6 0),(23,.b9 7 33 n n I)],gE N t U i lf pt nf D ds wo M sq++[.b [.t5 s],.b [.t5 cv],.b [.t5 cs]]++[.b [.aF 33 n (iA f)]],Z⟩))=(E (.normal,gf own I M j [(16,eV m),(17,.r5 5),(18,.nl .nilIface),(21,.r5 6),(22,.t6 0),(23,.b9 7 33 n n I)],gE N t U i lf pt nf D ds wo M sq++[.b [.t5 s],.b [.t5 cv],.b [.t5 cG]]++[.b [.aF 33 n (iA f)]]),(Z)):=by kernel_rfl
end Fo
namespace Fo
open Sy Sh La Re Tr Pa Mk Wi
attribute [local instance low] Classical.propDecidable
def ahb(own:Int)(cm:Bool)(M:Nat)(j:Int)(m:Nat)(v:SV):List (Option SV):=gf own cm M j [(16,eV m),(17,.r5 5),(18,.nl .nilIface),(21,.r5 6),(22,.t6 0),(23,v)]
def fmH(N:Nat)(t U:Nat->aE)(i:Int)(lf pt nf:pD)(D:Nat)(ds:Nat->pD)(wo:pD)(M:Nat)(sq:Nat->pD)(s cv cs:pD)(b:Blk):List Blk:=gE N t U i lf pt nf D ds wo M sq++[.b [.t5 s],.b [.t5 cv],.b [.t5 cs],b]
def TU N t U i lf pt nf D ds wo own cm M sq j s m n cv f:aD (az [1,3,4,9,68,69,70,133,134,135] 4 ((cg Q (c7 Q (nN [] [(131,I)]) λk=>Sy.exec Q (nN [] [(131,I)]) 60 k) (nN [] [(131,I)]).sym (nN [] [(131,I)]).eZ 8 (bO (cq QM)) [0,1,2,3,4,5,6,7,8,9,10,11] ⟨ahb own cm M j m (.aO Z 33 n (iA f)),fmH N t U i lf pt nf D ds wo M sq s cv cv (.b []),Z⟩).x3))=(E (.normal,gf own cm M j [(133,.bool I),(134,eV m),(135,.aO Z 33 n (iA f))],gE N t U i lf pt nf D ds wo M sq),(aa (aa Z (aa (C (A cv=32)) (C (A cv=32)))) !!C (cv=cv))):=by kernel_rfl
def TV N t U i lf pt nf D ds wo own cm M sq j(s:pD) m n(cv:pD)(f:Nat->Int×pD):aD (az [1,3,4,9,68,69,70,138] 4 ((cg Q (c7 Q (nN [] []) λk=>Sy.exec Q (nN [] []) 60 k) (nN [] []).sym (nN [] []).eZ 4 (bO (cq QM)) [13,14] ⟨bK (gf own cm M j [(133,.bool I),(134,eV m),(135,.aO Z 33 n (iA f))]) (E 136) (.bool Z),gE N t U i lf pt nf D ds wo M sq,Z⟩).x3))=(E (.normal,gf own cm M j [(138,.bool I)],gE N t U i lf pt nf D ds wo M sq),(Z)):=by kernel_rfl
def TW N t U i lf pt nf D ds wo own cm M sq j(s:pD)(m n:Nat)(cv:pD)(f:Nat->Int×pD):aD (az [1,3,4,9,68,69,70] 4 (exec Q (nN [] []) 60 4 (br QM) ⟨gf own cm M j [(138,.bool I)],gE N t U i lf pt nf D ds wo M sq,Z⟩))=(E (.normal,gf own cm M j [],gE N t U i lf pt nf D ds wo M sq),(Z)):=by kernel_rfl
end Fo
end Go.Proofs.YthlnlcijnoadcaaGreatDoor
namespace Go.Sy
section
variable {P:Program} {ro:Option Nat} {k:Nat} {H H':HP}
def OX.pre(i:gj H){ops is s s1 s'}(h:OX P ro k ops is s1 H s' H')(g:bG k s s1):OX P ro k ops is s H s' H':=
 λB e w a d Q f rest hB n R c m=>by have⟨e1,j,l,b⟩:=g B e w a hB n R;rw[<-j];exact h B e1 w a d Q f rest hB l b (i _ _ _ _ c) m
def OX.axQ{Γ}(l:aq P Γ) n live m(g:k<=m){ops is s s'} ob
  (e:jd (az live m ((cg P (c7 P Γ λk=>Sy.exec P Γ n k) Γ.sym Γ.eZ k ops is s).x3))=E (.normal,s'.t,s'.h))(b:uF (az live m ((cg P (c7 P Γ λk=>Sy.exec P Γ n k) Γ.sym Γ.eZ k ops is s).x3))=ob)(h:ob=Z):OX P ro k ops is s TH s' TH:=by
 unfold jd az at e
 unfold uF az at b
 cases f:cg P (c7 P Γ λk=>Sy.exec P Γ n k) Γ.sym Γ.eZ k ops is s with
 |none=>rw[f] at e;cases e
 |some q=>
  rw[f] at e b
  simp only[acs,ajZ] at e b
  cases a:q.cut live m with
  |none=>rw[a] at e;cases e
  |some q2=>
   rw[a] at e b
   simp only[acs,Mf,aad,true_and] at e b
   have⟨x,o⟩:=e
   have v:q.ob=Z:=by
    unfold St.cut St.dS at a
    split at a
    ·cases a;exact b.trans h
    ·cases a
   refine OX.QO TH.cj ?_ ((bG.cut g a).trans (bG.bR x o))
   intro B e w G d Q J rest hB y R F r
   refine kP (nc l λro k=>(mh l n ro k).1) is s q f v (λi p z=>Nat.lt_of_lt_of_le (R.kr i p z) hB) y R λe' D j g c u=>?_
   rw[<-g]
   exact r e' D j c u trivial
theorem OX.mK{Γ}(l:aq P Γ){n}{live}{m}(g:k<=m){ops is s s'}{ob}(e:aD (az live m ((cg P (c7 P Γ λk=>Sy.exec P Γ n k) Γ.sym Γ.eZ k ops is s).x3))=(E (.normal,s'.t,s'.h),ob))(h:ob=Z):OX P ro k ops is s TH s' TH:=OX.axQ l n live m g ob (bu e) (bz e) h
def TrX.Ev{Γ}(j:aq P Γ)(b:fT H)(f:gj H) n live(m:Nat)(d:k<=m){c:Code}{s s':St}{x:Exit}(a:Bool){k0:Nat}(i:A s.h=k0)(e:jd (az live m (Sy.exec P Γ n k0 c s))=E (x,s'.t,s'.h))(g:uF (az live m (Sy.exec P Γ n k0 c s))=a)(h:a=Z):TrX P ro k c s H x s' H:=by subst i;exact TrX.bg j b f n live m d a e g h
theorem TrX.lL{Γ}(j:aq P Γ)(b:fT H)(f:gj H){n}{live}{m:Nat}(d:k<=m){c:Code}{s s':St}{x:Exit}{a:Bool}{k0:Nat}(i:A s.h=k0)(e:aD (az live m (Sy.exec P Γ n k0 c s))=(E (x,s'.t,s'.h),a))(h:a=Z):TrX P ro k c s H x s' H:=TrX.Ev j b f n live m d a i (bu e) (bz e) h
def OX.Ru{Γ}(i:aq P Γ)(b:fT H)(d:gj H) n live(m:Nat)(c:k<=m){ops:Array Oper}{is:List Nat}{s s':St}(a:Bool){k0:Nat}(g:A s.h=k0)
  (e:jd (az live m ((cg P (c7 P Γ λk=>Sy.exec P Γ n k) Γ.sym Γ.eZ k0 ops is s).x3))=E (.normal,s'.t,s'.h))(f:uF (az live m ((cg P (c7 P Γ λk=>Sy.exec P Γ n k) Γ.sym Γ.eZ k0 ops is s).x3))=a)(h:a=Z):OX P ro k ops is s H s' H:=by subst g;exact OX.mY i b d n live m c a e f h
theorem OX.i9{Γ}(i:aq P Γ)(b:fT H)(d:gj H){n}{live}{m:Nat}(c:k<=m){ops:Array Oper}{is:List Nat}{s s':St}{a:Bool}{k0:Nat}(g:A s.h=k0)(e:aD (az live m ((cg P (c7 P Γ λk=>Sy.exec P Γ n k) Γ.sym Γ.eZ k0 ops is s).x3))=(E (.normal,s'.t,s'.h),a))(h:a=Z):OX P ro k ops is s H s' H:=OX.Ru i b d n live m c a g (bu e) (bz e) h
def bG.first{t h o o'} b{pre post}(l:h[b]?=E (.b (pre++post))):bG k ⟨t,h,o⟩ ⟨t,h.set b (.b pre),o'⟩:=λB e w s hB i R=>by
 have a:aC (pre++post)=aC pre+aC post:=eE _ _
 refine⟨e,rfl,i,R.Iz l (λp x _ _ ⟨c,t,n,r,j,m⟩=>?_) (λq=>by rw[a] at q;omega)⟩
 have⟨d,v,g,f,u⟩:=m.split
 refine⟨c,t,n,r,by rw[a] at j;omega,?_⟩
 have i:=f.length
 rw[a] at g
 have:(c.toList.drop p.base).take (aC pre)=d:=by
  have:=ahV (List.take (aC pre)) g
  rw[ahy,agK (by omega),afk (by omega),aaT (show A d<=aC pre by omega)] at this
  exact this
 rw[this]
 exact f
def bG.Rt{t h o o'} i b{o1 i1 z wh}(hi:t[i]?=E (E (.sl b o1 i1 z 0 0 Z wh)))(u:h[b]?=E (.b [])) y g:bG k ⟨t,h,o⟩ ⟨t.set i (E (.b9 b y 0 0 I)),h.set b (.b [.aF y 0 g]),o'⟩:=
 λB e w D _ l R=>⟨e,rfl,⟨by simpa using l.1,λj v r a c=>by
  by_cases d:i=j
  ·subst d
   rw[acg (aaR.1 hi).1] at a
   simp only[Mf] at a
   subst a
   rcases l.2 i _ r hi c with⟨_,_,q⟩|⟨p,G,a,n,f,s,m,B,F⟩
   ·exact .inl ⟨rfl,rfl,q⟩
   ·rw[B rfl] at f
    exact .inl ⟨rfl,rfl,_,f⟩
  ·rw[abI d] at a
   exact l.2 j v r a c⟩,R.Iz u (λp x _ _ ⟨c,t,n,f,s,m⟩=>⟨c,t,n,f,by simp[aC,kf],(PE.aq6).2 _ _ (by simpa[aC,kf] using m)⟩) (λ_=>by simp[aC,kf])⟩
end
end Go.Sy
namespace Go.Proofs.YthlnlcijnoadcaaGreatDoor
namespace Fo
open Sy Sh La Re Tr Pa Mk Wi
attribute [local instance low] Classical.propDecidable
def ahr:A3=[cq A3,cq (br A3),cq (br (br A3)),cq (br (br (br A3))),cq (br (br (br (br A3)))),cq (br (br (br (br (br A3)))))].foldr .seq QN:=by kernel_rfl
def aho:QN=.seq (.seq (.region 11 (bO (cq (cq QN))) I) (.block 0 (.loop Ki))) (br QN):=by kernel_rfl
def Rx:Ki=[cq Ki,cq (br Ki)].foldr .seq (.seq (.block 1 uN) (br (br (br Ki)))):=by kernel_rfl
def ahg:uN=.seq (cq uN) (.seq (.region 14 (bO (cq (br uN))) I) (.seq (cq (br (br uN))) ([cq (br (br (br uN))),faK].foldr .seq (.seq (cq (br Rw)) QM)))):=by kernel_rfl
def aa0:uN=[cq uN,cq (br uN),cq (br (br uN)),cq (br (br (br uN)))].foldr .seq Rw:=by kernel_rfl
def ag9:faK=.seq (cq faK) (.block 2 (.loop faO)):=by kernel_rfl
def ahd:QM=.seq (.region 24 (bO (cq QM)) I) (br QM):=by kernel_rfl
def Bv{f g}:∀{n},(∀i,i<n->f i=g i)->gF f n=gF g n
 |0,_=>rfl
 |n+1,h=>by show mW (gF f n) (f n).1 _=mW (gF g n) (g n).1 _;rw[Bv λi a=>h i (by omega),h n (by omega)]
section
variable {N:Nat} {t U:Nat->aE} {i:Int} {lf pt nf:pD} {D:Nat} {ds:Nat->pD} {wo:pD} {own:Int} {cm:Bool} {M:Nat} {sq:Nat->pD} {j:Nat}
theorem ahi(hM:M<=1000)(l:j<M+1){c}(hc:c≠0)(h:Ox N U i own (sq j) cm (vZ c))(a:Ow N U i own (sq j) (tE c))(d:CJ c)(f:Nat->Int×pD)(hf:∀k,(f k).2.length=32):
  TrX Q Y 0 Ki ⟨gf own cm M (j:Int) [],gE N t U i lf pt nf D ds wo M sq,Z⟩ TH .normal ⟨gf own cm M ((j+1:Nat):Int) [],gE N t U i lf pt nf D ds wo M sq,Z⟩ TH:=by
 have m:=apf N t U i lf pt nf D ds wo own cm M sq j
 rw[dm (by omega)] at m
 rw[Rx]
 refine TrX.i5 (s1:=⟨gf own cm M (j:Int) [],gE N t U i lf pt nf D ds wo M sq,Z⟩) (eP [] [(71,Z)]) TH.bJ TH.cj (aaH _) (TI ..) (by rw[g8 l];rfl) ?_
 refine TrX.seq (s1:=⟨gf own cm M (j:Int) [],gE N t U i lf pt nf D ds wo M sq,Z⟩) (TrX.cz ?_ (by simp)) (TrX.bg (eP [] []) TH.bJ TH.cj 60 _ 4 (aaH _) _ m (afi ..) rfl)
 rw[aa0]
 refine TrX.i5 (s1:=⟨gf own cm M ((j:Nat):Int) [(16,.nl (.map Y)),(17,.r5 5),(18,.iface 112 (.t6 c)),(19,dx),(21,.r5 6),(22,.t6 c),(23,.sl 7 0 0 33 0 0 Z Z)],gE N t U i lf pt nf D ds wo M sq++[.b [.t5 (sq j)],.b [.t5 cG],.b [.t5 cG],.b []],Z⟩) (Ig [fmT (s:=sq (O (j:Int))) h,aag (s:=sq (O (j:Int))) a] []) TH.bJ TH.cj (aaH _) (TK N t U i lf pt nf D ds wo own cm M sq j c h a) ?_ ?_
 ·rw[bW l,aaq,Me l]
  exact av.2 ⟨av.2 ⟨rfl,av.2 ⟨rfl,Me rfl⟩⟩,av.2 ⟨rfl,Me rfl⟩⟩
 ·have e:=TA hf
  have g:=azI N t U i lf pt nf D ds wo own cm M sq ((j:Nat):Int) c (sq j) f e d
  have o:=aq5 N t U i lf pt nf D ds wo own cm M sq ((j:Nat):Int) c (sq j) f e d
  have p:TrX Q Y 0 Rw ⟨gf own cm M ((j:Nat):Int) [(16,.nl (.map Y)),(17,.r5 5),(18,.iface 112 (.t6 c)),(19,dx),(21,.r5 6),(22,.t6 c),(23,.b9 7 33 0 0 I)],gE N t U i lf pt nf D ds wo M sq++[.b [.t5 (sq j)],.b [.t5 cG],.b [.t5 cG],.b [.aF 33 0 (iA f)]],Z⟩ TH .normal ⟨gf own cm M ((j:Nat):Int) [],gE N t U i lf pt nf D ds wo M sq,Z⟩ TH:=by
   refine TrX.Ev (s':=⟨gf own cm M ((j:Nat):Int) [],gE N t U i lf pt nf D ds wo M sq,Z⟩) (Ig [aiu d,ait e] [(118,Z),(127,I)]) TH.bJ TH.cj 60 _ 4 (aaH _) _ (k0:=8) (by kernel_rfl) g o ?_
   exact av.2 ⟨av.2 ⟨av.2 ⟨av.2 ⟨rfl,by simpa using hc⟩,av.2 ⟨rfl,Me rfl⟩⟩,by simp⟩,av.2 ⟨rfl,Me rfl⟩⟩
  exact TrX.pre TH.cj p (bG.trans (bG.Rt (o':=Z) 23 7 (o1:=0) (i1:=0) (z:=33) (wh:=Z) (by kernel_rfl) (by kernel_rfl) 33 (iA f)) (bG.bR (by kernel_rfl) (by kernel_rfl)))
end
end Fo
namespace Fo
open Sy Sh La Re Tr Pa Mk Wi
attribute [local instance low] Classical.propDecidable
section
variable {N:Nat} {t U:Nat->aE} {i:Int} {lf pt nf:pD} {D:Nat} {ds:Nat->pD} {wo:pD} {own:Int} {cm:Bool} {M:Nat} {sq:Nat->pD} {j:Nat} {s cv cs nd:pD} {n m:Nat} {dk:Nat->pD} {f:Nat->Int×pD}
def Rr(a:∀q,q<n->f q=(X nd q 0,dk q)){q}(c:q<n):∀k,k<q+1->PE (bF (Nat.ble (k+1) q) (iA f k) [.t6 (X nd q 0),.t5 (dk q)]) (iA f k):=λk d=>by
 by_cases h:k<q
 ·rw[agO (by omega)];exact PE.refl _
 ·obtain rfl:k=q:=by omega
  rw[show Nat.ble (k+1) k=I from by cases b:Nat.ble (k+1) k with
   |false=>rfl
   |true=>have:=aeN b;omega]
  unfold iA;rw[a k c];exact PE.refl _
abbrev A8(N:Nat)(t U:Nat->aE)(i:Int)(lf pt nf:pD)(D:Nat)(ds:Nat->pD)(wo:pD)(M:Nat)(sq:Nat->pD)(s cv cs:pD):List Blk:=gE N t U i lf pt nf D ds wo M sq++[.b [.t5 s],.b [.t5 cv],.b [.t5 cs]]
def Rs(h:A nd=n)(x:n<=1000)(w:∀q,q<n->f q=(X nd q 0,dk q)):
  TrL Q Y 7 [cq (br (br (br uN))),faK] ⟨A9 own cm M (j:Int) m nd n dk [],A8 N t U i lf pt nf D ds wo M sq s cv cs,Z⟩ .normal ⟨gf own cm M (j:Int) [(16,eV m),(17,.r5 5),(18,.nl .nilIface),(21,.r5 6),(22,.t6 0),(23,.b9 7 33 n n I)],A8 N t U i lf pt nf D ds wo M sq s cv cs++[.b [.aF 33 n (iA f)]],Z⟩:=by
 have u:Tr Q Y 7 (cq (br (br (br uN)))) ⟨A9 own cm M (j:Int) m nd n dk [],A8 N t U i lf pt nf D ds wo M sq s cv cs,Z⟩ .normal ⟨A9 own cm M (j:Int) m nd n dk [(23,.sl 7 0 0 33 0 0 Z Z)],A8 N t U i lf pt nf D ds wo M sq s cv cs++[.b []],Z⟩:=
  Tr.i7 (eP [] []) (by decide) (TP N t U i lf pt nf D ds wo own cm M sq (j:Int) s m cv nd n dk cs) rfl
 have g:=Tr.post u (s':=⟨A9 own cm M (j:Int) m nd n dk [(23,.b9 7 33 0 0 I)],A8 N t U i lf pt nf D ds wo M sq s cv cs++[.b [.aF 33 0 (iA f)]],Z⟩) (bG.trans (bG.Rt (o':=Z) 23 7 (o1:=0) (i1:=0) (z:=33) (wh:=Z) rfl rfl 33 (iA f)) (bG.bR (by kernel_rfl) (by kernel_rfl)));let S:Nat->St:=λq=>⟨A9 own cm M (j:Int) m nd n dk [(23,.b9 7 33 q q I),(100,.t6 (A nd:Int)),(101,.t6 (q:Int))],A8 N t U i lf pt nf D ds wo M sq s cv cs++[.b [.aF 33 q (iA f)]],Z⟩;have v:Tr Q Y 7 (cq faK) ⟨A9 own cm M (j:Int) m nd n dk [(23,.b9 7 33 0 0 I)],A8 N t U i lf pt nf D ds wo M sq s cv cs++[.b [.aF 33 0 (iA f)]],Z⟩ .normal (S 0):=
  Tr.i7 (s':=S 0) (eP [] []) (by decide) (TQ N t U i lf pt nf D ds wo own cm M sq (j:Int) s m cv nd n dk cs f) rfl
 have o:Tr Q Y 7 faO (S n) (.exit 2) ⟨gf own cm M (j:Int) [(16,eV m),(17,.r5 5),(18,.nl .nilIface),(21,.r5 6),(22,.t6 0),(23,.b9 7 33 n n I)],A8 N t U i lf pt nf D ds wo M sq s cv cs++[.b [.aF 33 n (iA f)]],Z⟩:=
  Tr.i7 (s':=⟨gf own cm M (j:Int) [(16,eV m),(17,.r5 5),(18,.nl .nilIface),(21,.r5 6),(22,.t6 0),(23,.b9 7 33 n n I)],A8 N t U i lf pt nf D ds wo M sq s cv cs++[.b [.aF 33 n (iA f)]],Z⟩) (eP [] [(102,I)]) (by decide) (TS N t U i lf pt nf D ds wo own cm M sq (j:Int) s m cv nd n dk cs f n (n:Int)) (by rw[h,gV (aar _)];rfl)
 have r:∀q,q<n->Tr Q Y 7 faO (S q) .normal (S (q+1)):=λq d=>by have e:=axG N t U i lf pt nf D ds wo own cm M sq (j:Int) s m cv nd n dk cs f q (q:Int);have l:=ao7 N t U i lf pt nf D ds wo own cm M sq (j:Int) s m cv nd n dk cs f q (q:Int);rw[dm (by omega),aaq] at e;rw[aaq] at l;refine Tr.post (s1:=⟨A9 own cm M (j:Int) m nd n dk [(23,.b9 7 33 (q+1) (q+1) I),(100,.t6 (A nd:Int)),(101,.t6 (q+1:Int))],A8 N t U i lf pt nf D ds wo M sq s cv cs++[.b [.aF 33 (q+1) λk=>bF (Nat.ble (k+1) q) (iA f k) [.t6 (X nd q 0),.t5 (dk q)]]],Z⟩) (Tr.bg (s':=⟨A9 own cm M (j:Int) m nd n dk [(23,.b9 7 33 (q+1) (q+1) I),(100,.t6 (A nd:Int)),(101,.t6 (q+1:Int))],A8 N t U i lf pt nf D ds wo M sq s cv cs++[.b [.aF 33 (q+1) λk=>bF (Nat.ble (k+1) q) (iA f k) [.t6 (X nd q 0),.t5 (dk q)]]],Z⟩) (eP [] [(102,Z),(115,Z)]) 60 _ 8 (by decide) _ e l ?_) (bG.tD (show Ef (gE N t U i lf pt nf D ds wo M sq++[.b [.t5 s],.b [.t5 cv],.b [.t5 cs]]++[.b [.aF 33 (q+1) λk=>bF (Nat.ble (k+1) q) (iA f k) [.t6 (X nd q 0),.t5 (dk q)]]]) (gE N t U i lf pt nf D ds wo M sq++[.b [.t5 s],.b [.t5 cv],.b [.t5 cs]]++[.b [.aF 33 (q+1) (iA f)]]) from⟨PE.refl _,PE.refl _,PE.refl _,PE.refl _,PE.refl _,PE.refl _,PE.refl _,PE.aF (Rr w d),trivial⟩));rw[h,g8 d,bW d,Me d,Me (aar q),Me (by omega)];rfl
 have p:Tr Q Y 7 faK ⟨A9 own cm M (j:Int) m nd n dk [(23,.b9 7 33 0 0 I)],A8 N t U i lf pt nf D ds wo M sq s cv cs++[.b [.aF 33 0 (iA f)]],Z⟩ .normal ⟨gf own cm M (j:Int) [(16,eV m),(17,.r5 5),(18,.nl .nilIface),(21,.r5 6),(22,.t6 0),(23,.b9 7 33 n n I)],A8 N t U i lf pt nf D ds wo M sq s cv cs++[.b [.aF 33 n (iA f)]],Z⟩:=by rw[ag9];exact Tr.seq v (Tr.block (TrR.loop (TrR.for (by simp) S n r o)))
 exact .inl ⟨_,g,.inl ⟨_,p,rfl,rfl⟩⟩
def TrX.aae{P ro k k0 H H'}(a:fT H){b s' x l s s1}(c:A s.h=k0)(g:TrL P ro k0 l s .normal s1)(h:TrX P ro k b s1 H x s' H'):TrX P ro k (l.foldr .seq b) s H x s' H':=by subst c;exact TrX.CI a g h
def aha(o:A cv=32)(hn:n<=1000)(hf:∀k,(f k).2.length=32):
  TrX prog Y 0 QM ⟨ahb own cm M (j:Int) m (.aO Z 33 n (iA f)),fmH N t U i lf pt nf D ds wo M sq s cv cv (.b []),Z⟩ (cZ (bA Z m (gF f n)) TH) .normal ⟨gf own cm M (j:Int) [],gE N t U i lf pt nf D ds wo M sq,Z⟩ TH:=by
 have K:=cZ.bJ (bA.bJ Z m (gF f n)) TH.bJ;have F:=cZ.cj (bA.cj Z m (gF f n)) TH.cj;have ha:OX prog Y 0 (bO (cq QM)) [0,1,2,3,4,5,6,7,8,9,10,11] ⟨ahb own cm M (j:Int) m (.aO Z 33 n (iA f)),fmH N t U i lf pt nf D ds wo M sq s cv cv (.b []),Z⟩ (cZ (bA Z m (gF f n)) TH) ⟨gf own cm M (j:Int) [(133,.bool I),(134,eV m),(135,.aO Z 33 n (iA f))],gE N t U i lf pt nf D ds wo M sq,Z⟩ (cZ (bA Z m (gF f n)) TH):=
  OX.i9 (eP [] [(131,I)]) K F (aaH _) rfl (TU N t U i lf pt nf D ds wo own cm M sq (j:Int) s m n cv f) (by rw[Me o,Me (rfl:cv=cv)];rfl)
 have q:eL prog 64 [eV m,.aO Z 33 n (iA f)] [] (Et m (gF f n)) (λ_:Nat=>.bool Z) (λ_=>TH):=eL.args (yt (by omega) hf m) ⟨VE.refl _,VE.ahc Z 33 n _,trivial⟩;rw[ahd];refine nX.region 24 (F:=λ_:Nat=>⟨gf own cm M (j:Int) [(138,.bool I)],gE N t U i lf pt nf D ds wo M sq,Z⟩) (G:=λ_=>TH) ?_ λ_=>?_
 ·rw[show t8 (bO (cq QM)).size=[0,1,2,3,4,5,6,7,8,9,10,11]++([12]++[13,14]) by kernel_rfl];refine OX.Kg ha ?_;refine nX.then (nX.Rv func64 (by decide) rfl q rfl (λ_=>TH.low) K F (λ_ _ _ h=>h.1.2) (dst:=E 136) (x:=.func 64) (ty:=#[97,121]) (a:=#[.tmp 134,.tmp 135]) rfl rfl rfl rfl) λ_=>?_;have l:OX prog Y 0 (bO (cq QM)) [13,14] ⟨bK (gf own cm M (j:Int) [(133,.bool I),(134,eV m),(135,.aO Z 33 n (iA f))]) (E 136) (.bool Z),gE N t U i lf pt nf D ds wo M sq,Z⟩ TH ⟨gf own cm M (j:Int) [(138,.bool I)],gE N t U i lf pt nf D ds wo M sq,Z⟩ TH:=
   OX.i9 (s':=⟨gf own cm M (j:Int) [(138,.bool I)],gE N t U i lf pt nf D ds wo M sq,Z⟩) (k0:=4) (eP [] []) TH.bJ TH.cj (aaH _) rfl (TV N t U i lf pt nf D ds wo own cm M sq (j:Int) s m n cv f) rfl
  exact λB e1 w t' d Q p rest hB r R hh hQ=>l B e1 w t' d Q p rest hB r R trivial hQ
 ·exact TrX.lL (s':=⟨gf own cm M (j:Int) [],gE N t U i lf pt nf D ds wo M sq,Z⟩) (k0:=4) (eP [] []) TH.bJ TH.cj (aaH _) rfl (TW N t U i lf pt nf D ds wo own cm M sq (j:Int) s m n cv f) rfl
def aaf(tj:A nd=n)(e:cv=bif cm then cs else cG)(h:A cs=32)(c:n<=1000)(hf:∀k,(f k).2.length=32)(a:∀q,q<n->f q=(X nd q 0,dk q)):
  TrX Q Y 0 ([cq (br (br (br uN))),faK].foldr .seq (.seq (cq (br Rw)) QM)) ⟨A9 own cm M (j:Int) m nd n dk [],A8 N t U i lf pt nf D ds wo M sq s cv cs,Z⟩ (cZ (bA Z m (gF f n)) TH) .normal ⟨gf own cm M (j:Int) [],gE N t U i lf pt nf D ds wo M sq,Z⟩ TH:=by
 have K:=cZ.bJ (bA.bJ Z m (gF f n)) TH.bJ;have F:=cZ.cj (bA.cj Z m (gF f n)) TH.cj;have hl:A cv=32:=by
  rw[e];cases cm
  ·exact(by decide:A cG=32)
  ·exact h
 refine TrX.aae K rfl (Rs tj c a) ?_
 have h9:TrX Q Y 0 (cq (br Rw)) ⟨gf own cm M (j:Int) [(16,eV m),(17,.r5 5),(18,.nl .nilIface),(21,.r5 6),(22,.t6 0),(23,.b9 7 33 n n I)],A8 N t U i lf pt nf D ds wo M sq s cv cs++[.b [.aF 33 n (iA f)]],Z⟩ (cZ (bA Z m (gF f n)) TH) .normal ⟨gf own cm M (j:Int) [(16,eV m),(17,.r5 5),(18,.nl .nilIface),(21,.r5 6),(22,.t6 0),(23,.b9 7 33 n n I)],A8 N t U i lf pt nf D ds wo M sq s cv cv++[.b [.aF 33 n (iA f)]],Z⟩ (cZ (bA Z m (gF f n)) TH):=by
  subst e
  cases cm
  ·exact TrX.lL (eP [] []) K F (aaH _) rfl (KN N t U i lf pt nf D ds wo own M sq (j:Int) s m n cG cs f) rfl
  ·exact TrX.lL (eP [] []) K F (aaH _) rfl (KM N t U i lf pt nf D ds wo own M sq (j:Int) s m n cs cs f) rfl
 refine TrX.seq h9 (TrX.pre F (aha (s:=s) hl c hf) ?_)
 exact bG.trans (bG.Kh (o':=Z) 23 7 (z:=33) (len:=n) (cap:=n) (ex:=I) (g:=iA f) (aaH _) rfl rfl (aar _) rfl rfl) (bG.bR (by kernel_rfl) (by kernel_rfl))
theorem apd(hM:M<=1000)(l:j<M+1)(u:A nd=n)(v:cv=bif cm then cs else cG)(mX:A cs=32)(hn:n<=1000)(hf:∀k,(f k).2.length=32)(h:∀q,q<n->f q=(X nd q 0,dk q))(w:sq j=s)
  (h3:eL Q 60 [.p4 I N U,.t6 i,.t6 own,.sM s,.bool cm] [] (λ_=>True) (λm=>.bP [eV m,.sM cv,.nl .nilIface]) (λm=>bA Z m (gF f n)))(d:Ow N U i own s (ape nd n dk cs)):
  TrX Q Y 0 Ki ⟨gf own cm M ((j:Nat):Int) [],gE N t U i lf pt nf D ds wo M sq,Z⟩ TH .normal ⟨gf own cm M ((j+1:Nat):Int) [],gE N t U i lf pt nf D ds wo M sq,Z⟩ TH:=by
 have o:=apf N t U i lf pt nf D ds wo own cm M sq ((j:Nat):Int)
 rw[dm (by omega)] at o
 have h1:TrX Q Y 0 (cq uN) ⟨gf own cm M ((j:Nat):Int) [],gE N t U i lf pt nf D ds wo M sq,Z⟩ TH .normal ⟨gf own cm M ((j:Nat):Int) [(15,.r5 4)],gE N t U i lf pt nf D ds wo M sq++[.b [.t5 s]],Z⟩ TH:=by
  have e:=axL N t U i lf pt nf D ds wo own cm M sq ((j:Nat):Int)
  have p:=apg N t U i lf pt nf D ds wo own cm M sq ((j:Nat):Int)
  rw[aaq] at e p
  rw[w] at e
  exact TrX.Ev (eP [] []) TH.bJ TH.cj 60 _ 5 (aaH _) _ (by kernel_rfl) e p (by rw[bW l,Me l];rfl)
 have r:OX Q Y 0 (bO (cq (br uN))) [0,1,2,3,4,5,6] ⟨gf own cm M ((j:Nat):Int) [(15,.r5 4)],gE N t U i lf pt nf D ds wo M sq++[.b [.t5 s]],Z⟩ TH ⟨gf own cm M ((j:Nat):Int) [(15,.r5 4),(76,.p4 Z N U),(78,.t6 i),(79,.t6 own),(80,.sM s),(81,.bool cm)],gE N t U i lf pt nf D ds wo M sq++[.b [.t5 s]],Z⟩ TH:=OX.i9 (eP [] []) TH.bJ TH.cj (aaH _) (by kernel_rfl) (TM N t U i lf pt nf D ds wo own cm M sq ((j:Nat):Int) s) rfl
 have hR:∀m,OX Q Y 0 (bO (cq (br uN))) [8,9,10,11,12,13,14,15] ⟨bK (gf own cm M ((j:Nat):Int) [(15,.r5 4),(76,.p4 Z N U),(78,.t6 i),(79,.t6 own),(80,.sM s),(81,.bool cm)]) (E 82) (.bP [eV m,.sM cv,.nl .nilIface]),gE N t U i lf pt nf D ds wo M sq++[.b [.t5 s]],Z⟩ (cZ (bA Z m (gF f n)) TH) ⟨gf own cm M ((j:Nat):Int) [(15,.r5 4),(16,eV m),(17,.r5 5),(18,.nl .nilIface)],gE N t U i lf pt nf D ds wo M sq++[.b [.t5 s],.b [.t5 cv]],Z⟩ (cZ (bA Z m (gF f n)) TH):=λm=>
  OX.i9 (eP [] []) (cZ.bJ (bA.bJ Z m (gF f n)) TH.bJ) (cZ.cj (bA.cj Z m (gF f n)) TH.cj) (aaH _) (by kernel_rfl) (TN N t U i lf pt nf D ds wo own cm M sq ((j:Nat):Int) s m cv) rfl
 rw[Rx]
 refine TrX.i5 (s1:=⟨gf own cm M ((j:Nat):Int) [],gE N t U i lf pt nf D ds wo M sq,Z⟩) (eP [] [(71,Z)]) TH.bJ TH.cj (aaH _) (TI N t U i lf pt nf D ds wo own cm M sq ((j:Nat):Int)) (by rw[g8 l];rfl) ?_
 refine TrX.seq (s1:=⟨gf own cm M ((j:Nat):Int) [],gE N t U i lf pt nf D ds wo M sq,Z⟩) (H1:=TH) (TrX.cz ?_ (by simp)) (TrX.bg (eP [] []) TH.bJ TH.cj 60 _ 4 (aaH _) _ o (afi N t U i lf pt nf D ds wo own cm M sq ((j:Nat):Int)) rfl)
 rw[ahg]
 refine TrX.seq h1 (nX.region 14 (F:=λm=>⟨gf own cm M ((j:Nat):Int) [(15,.r5 4),(16,eV m),(17,.r5 5),(18,.nl .nilIface)],gE N t U i lf pt nf D ds wo M sq++[.b [.t5 s],.b [.t5 cv]],Z⟩) (G:=λm=>cZ (bA Z m (gF f n)) TH) ?_ λm=>?_)
 ·rw[show t8 (bO (cq (br uN))).size=[0,1,2,3,4,5,6]++([7]++[8,9,10,11,12,13,14,15]) by kernel_rfl]
  refine OX.Kg r (nX.then ?_ hR)
  exact nX.Rv func60 (by decide) (by kernel_rfl) (eL.args h3 (us:=[.p4 Z N U,.t6 i,.t6 own,.sM s,.bool cm]) ⟨VE.ahc Z 99 N _,VE.refl _,VE.refl _,VE.refl _,VE.refl _,trivial⟩) (by kernel_rfl) (λm=>bA.low _ _ _) TH.bJ TH.cj (λ_ _ _ _=>trivial) (dst:=E 82) (x:=.func 60) (ty:=#[23,3,3,26,4]) (a:=#[.tmp 76,.tmp 78,.tmp 79,.tmp 80,.tmp 81]) (by kernel_rfl) (by kernel_rfl) (by kernel_rfl) (by kernel_rfl)
 ·have K:=cZ.bJ (bA.bJ Z m (gF f n)) TH.bJ
  have F:=cZ.cj (bA.cj Z m (gF f n)) TH.cj
  have e5:TrX Q Y 0 (cq (br (br uN))) ⟨gf own cm M ((j:Nat):Int) [(15,.r5 4),(16,eV m),(17,.r5 5),(18,.nl .nilIface)],gE N t U i lf pt nf D ds wo M sq++[.b [.t5 s],.b [.t5 cv]],Z⟩ (cZ (bA Z m (gF f n)) TH) .normal ⟨A9 own cm M ((j:Nat):Int) m nd n dk [],A8 N t U i lf pt nf D ds wo M sq s cv cs,Z⟩ (cZ (bA Z m (gF f n)) TH):=TrX.lL (s':=⟨A9 own cm M ((j:Nat):Int) m nd n dk [],A8 N t U i lf pt nf D ds wo M sq s cv cs,Z⟩) (k0:=6) (eP [aag d] []) K F (aaH _) (by kernel_rfl) (TO N t U i lf pt nf D ds wo own cm M sq ((j:Nat):Int) s m cv nd n dk cs d) (av.2 ⟨rfl,av.2 ⟨rfl,Me rfl⟩⟩)
  exact TrX.seq e5 (aaf u v mX hn hf h)
end
end Fo
namespace Fo
open Sy Sh La Re Tr Pa Mk Wi
attribute [local instance low] Classical.propDecidable
def apl:CJ 2:=ak.bZ nK func18 (n:=60) (by kernel_rfl)
def apm:CJ 3:=ak.bZ nK func18 (n:=60) (by kernel_rfl)
def Ry:CJ 9:=ak.bZ nK func18 (n:=60) (by kernel_rfl)
def ahh:CJ 10:=ak.bZ nK func18 (n:=60) (by kernel_rfl)
section
variable {N:Nat} {t U:Nat->aE} {i:Int} {lf pt nf:pD} {D:Nat} {ds:Nat->pD} {wo:pD} {own:Int} {cm:Bool} {M:Nat} {sq:Nat->pD} {j:Nat} {s:pD}
def Kj N t i:iJ N t i<=2:=by unfold iJ;cases bq N t<;>cases lO ..<;>decide
def Rz(a:eo N U)(g:bq N U=eH N U)(u:M<=1000)(o:∀k,A (sq k)=32)(v:j<M+1):
  TrX Q Y 0 Ki ⟨gf own cm M (j:Int) [],gE N t U i lf pt nf D ds wo M sq,Z⟩ TH .normal ⟨gf own cm M ((j+1:Nat):Int) [],gE N t U i lf pt nf D ds wo M sq,Z⟩ TH:=by
 have b:∀{c},c≠0->Ox ..->Ow ..->CJ c->TrX Q Y 0 Ki ⟨gf own cm M (j:Int) [],gE N t U i lf pt nf D ds wo M sq,Z⟩ TH .normal ⟨gf own cm M (j+1:Int) [],gE N t U i lf pt nf D ds wo M sq,Z⟩ TH:=
  λhc p r y=>ahi u v hc p r y (λ_=>(0,cG)) λ_=>(by decide:A cG=32)
 have z:=Kj N U i;rcases(show iJ N U i=0\/iJ N U i=1\/iJ N U i=2 by omega) with w|w|w
 ·cases d:lO N U own with
  |false=>exact b (by decide) (ahj a w d) (aah a g w d) Ry
  |true=>
   by_cases e:own=i
   ·exact b (by decide) (ahk a w d e) (aai a g w d e) Ry
   ·by_cases h:gW N U i own<0
    ·exact b (by decide) (ahl a w d e h) (aaj a g w d e h) ahh
    ·have h:0<=gW N U i own:=by omega
     cases l:frQ N U i own (sq j) with
     |false=>exact b (by decide) (ahn a w d e h (o j) l) (aak a g w d e h (o j) l) apl
     |true=>
      have p:=aal (cm:=cm) a w d e h (o j) l
      have r:=RA a g w d e h (o j) l
      have⟨_,_,F⟩:=fF a w
      have x:gF (H9 (Kk (O (gW N U i own)) (j8 N U i)) (sq j)) (cT N U i-O (gW N U i own))=gF (λq=>(X ((fG (·.1) N U i).drop (gW N U i own).toNat) q 0,sJ (sq j) q)) (cT N U i-O (gW N U i own)):=Bv λq l=>by
       show(_,_)=(_,_)
       rw[Ia l];rfl
      rw[x] at p
      exact apd u v (wg _) rfl (aam (o j) _) (by omega) (λk=>iW _ _) (λ_ _=>rfl) rfl p r
 ·exact b (by decide) (RB a w) (aan a g w) apm
 ·exact b (by decide) (RC a w) (aao a g w) Ry
def aap(hU:eo N U)(hg:bq N U=eH N U)(hM:M<=1000)(hs:∀k,A (sq k)=32)(RD:sq M=s) a c:
  TrX Q Y 0 QN ⟨ag 140 [(1,.t6 own),(3,.bool cm),(4,.r5 0),(6,.r5 1),(9,.r5 3)],faH N t U i lf pt nf D ds wo s a c M sq,Z⟩ TH .ret ⟨ag 140 [(8,.bool Z)],[],Z⟩ TH:=by
 have hp:OX Q Y 0 (bO (cq (cq QN))) [0,1] ⟨ag 140 [(1,.t6 own),(3,.bool cm),(4,.r5 0),(6,.r5 1),(9,.r5 3)],faH N t U i lf pt nf D ds wo s a c M sq,Z⟩ TH ⟨ag 140 [(1,.t6 own),(3,.bool cm),(4,.r5 0),(6,.r5 1),(9,.r5 3),(65,.b9 2 32 M M I)],faH N t U i lf pt nf D ds wo s a c M sq,Z⟩ TH:=
  OX.i9 (eP [] []) TH.bJ TH.cj (aaH _) rfl (TD N t U i lf pt nf D ds wo own s cm a c M sq) rfl
 have hz:OX Q Y 0 (bO (cq (cq QN))) [2,3,4,5,6] ⟨ag 140 [(1,.t6 own),(3,.bool cm),(4,.r5 0),(6,.r5 1),(9,.r5 3),(65,.b9 2 32 M M I)],[.b (qu N t i lf pt nf D ds wo),.b [.t5 s],.b [.aF 32 M (eI sq)],.b [.p4 Z N U]],Z⟩ TH ⟨gf own cm M 0 [],[.b (qu N t i lf pt nf D ds wo),.b [.t5 s],.b [.aF 32 (M+1) λi=>bF ((i+1).ble M) (eI sq i) [.t5 s]],.b [.p4 Z N U]],Z⟩ TH:=
  OX.mK (eP [] []) (aaH _) (TE N t U i lf pt nf D ds wo s own cm M sq) (by rw[Me (aar M),Me (by omega)];rfl)
 have h:bG 0 ⟨ag 140 [(1,.t6 own),(3,.bool cm),(4,.r5 0),(6,.r5 1),(9,.r5 3),(65,.b9 2 32 M M I)],faH N t U i lf pt nf D ds wo s a c M sq,Z⟩ ⟨ag 140 [(1,.t6 own),(3,.bool cm),(4,.r5 0),(6,.r5 1),(9,.r5 3),(65,.b9 2 32 M M I)],[.b (qu N t i lf pt nf D ds wo),.b [.t5 s],.b [.aF 32 M (eI sq)],.b [.p4 Z N U]],Z⟩:=
  bG.first 3 rfl
 have e:bG 0 ⟨gf own cm M 0 [],[.b (qu N t i lf pt nf D ds wo),.b [.t5 s],.b [.aF 32 (M+1) λi=>bF ((i+1).ble M) (eI sq i) [.t5 s]],.b [.p4 Z N U]],Z⟩ ⟨gf own cm M 0 [],gE N t U i lf pt nf D ds wo M sq,Z⟩:=by refine bG.trans (bG.tD (o':=Z) (show Ef [.b (qu N t i lf pt nf D ds wo),.b [.t5 s],.b [.aF 32 (M+1) λi=>bF ((i+1).ble M) (eI sq i) [.t5 s]],.b [.p4 Z N U]] [.b (qu N t i lf pt nf D ds wo),.b [.t5 s],.b [.aF 32 (M+1) (eI sq)],.b [.p4 Z N U]] from⟨PE.refl _,PE.refl _,PE.aF (by rw[<-RD];exact qv sq M),PE.refl _,trivial⟩)) ?_;exact bG.Ib 1 rfl
 rw[aho];refine TrX.seq (s1:=⟨ag 140 [],[],Z⟩) (H1:=TH) (TrX.seq (s1:=⟨gf own cm M (0:Int) [],gE N t U i lf pt nf D ds wo M sq,Z⟩) (H1:=TH) (TrX.region 11 ?_) (TrX.block (jE.loop (jE.for (by simp) (λj:Nat=>⟨gf own cm M (j:Int) [],gE N t U i lf pt nf D ds wo M sq,Z⟩) (λ_=>TH) (M+1) (λj hj=>Rz hU hg hM hs hj) ?_)))) ?_
 ·rw[show t8 (bO (cq (cq QN))).size=[0,1]++[2,3,4,5,6] by kernel_rfl];exact OX.append hp (OX.pre TH.cj (OX.QO TH.cj hz e) h)
 ·exact TrX.lL (s':=⟨ag 140 [],[],Z⟩) (k0:=4) (eP [] [(71,I)]) TH.bJ TH.cj (aaH _) rfl (TF N t U i lf pt nf D ds wo own cm M sq ((M+1:Nat):Int)) (by rw[gV (aar _)];rfl)
 ·exact TrX.lL (s':=⟨ag 140 [(8,.bool Z)],[],Z⟩) (k0:=0) (eP [] []) TH.bJ TH.cj (aaH _) rfl (TG ()) rfl
end
end Fo
namespace Fo
open Sy Sh La Re Tr Pa Mk Wi
attribute [local instance low] Classical.propDecidable
abbrev FaP(N:Nat)(t:Nat->aE)(i:Int)(lf pt nf:pD)(D:Nat)(ds:Nat->pD)(wo:pD)(own:Int)(s:pD)(cm:Bool):Prop:=ak Q 20 (faA N t i lf pt nf D ds wo own s cm) [] (.bool Z) []
abbrev faE{N:Nat}{t:Nat->aE}{i lf pt nf}{D:Nat}{ds wo own s cm}(h:FaP N t i lf pt nf D ds wo own s cm):aK Q:=yS func20 (by decide) rfl 0 h
set_option maxRecDepth 100000 in
theorem axU(N:Nat)(t:Nat->aE) i lf pt nf(D:Nat) ds wo own s cm(h:FaP N t i lf pt nf D ds wo own s cm):(aV Q (fbC [faE h] []) 60 f4 [.agg (qu N t i lf pt nf D ds wo++[.t6 own,.t5 s,.bool cm])] []).v3=E (.bool Z,aa Z (aa Z (C ([SV.agg [SV.aO I 99 N λi=>ah (aA t i),SV.int IntKind.i64 i,SV.af IntKind.u8 32 lf,SV.af IntKind.u8 32 pt,SV.ro I IntKind.u8 nf,SV.aO I 32 D λi=>ah (eI ds i),SV.ro I IntKind.i64 wo],SV.int IntKind.i64 own,SV.agg [SV.af IntKind.u8 32 s],SV.bool cm]=faA N t i lf pt nf D ds wo own s cm)))):=by kernel_rfl
section
variable {N:Nat} {t:Nat->aE} {i:Int} {lf pt nf:pD} {D:Nat} {ds:Nat->pD} {wo:pD} {own:Int} {cm:Bool} {s:pD}
def ahp{k d}(c:eo N t)(p:oJ N t=Z)(h:iJ N t i=0)(u:kyB (cT N t i) d=Z)(o:uE k):eo N (rnV N t i d k):=by obtain⟨z,y,n,j,a,b,rfl,e,hN,x⟩:=Bw c h;have⟨g,v⟩:=RE (t:=t) a b e;have w:=cn a;have⟨q,r⟩:=Ew c p (show 2*j<N by omega);have l:=(RF a b g (Kl u) q r (cT N t j)).afl a b o (Ic t (j8 N t j) d (cT N t j) (cT N t j));rw[yT a b g] at l;unfold rnV;rw[e,aaq,aaq];exact l.tok a b hN c
def ahq(r:x9 N (aA t)=Z)(hn:∀i,i<N->(t i).OK)(G:fh lf=Z)(J:A pt=32)(z:A s=32):FaP N t i lf pt nf D ds wo own s cm:=by have h:=Oy (i:=i) (lf:=lf) (pt:=pt) (nf:=nf) (D:=D) (ds:=ds) (wo:=wo) r;cases q:lgM .. with
 |true=>
  rw[q] at h
  exact aP (eP [lgT h] []) 60 func20 (axW N t i lf pt nf D ds wo own s cm h) (av.2 ⟨rfl,av.2 ⟨rfl,Me rfl⟩⟩) rfl
 |false=>
 rw[q] at h
 have K:jF N t=I:=by
  unfold lgM at q
  simp[aiH] at q
  exact q.1.1.1
 have e1:N<=71:=by have:=Oz K;omega
 have l:=eo.of (aaa r (OA K)) e1
 have l:eo N t:=l
 have y:=yR (t:=t) e1
 have x:=aas hn
 have h2:=Kj N t i
 rcases(show iJ N t i=0\/iJ N t i=1\/iJ N t i=2 by omega) with w|w|w
 ·have L:=ahp l x w (RG pt _) (CK (yU lf 9))
  have H:=yR (t:=Km N t i lf pt) e1
  have⟨_,_,w3⟩:=fF l w
  have hN:=apt l y w x G J
  have o:OB N t i lf pt (.bP [.agg (HI (.aO Z 99 N (aA (Km N t i lf pt))) lf (fG (·.1) N t i) (cT N t i) 0 (dH pt (cT N t i))),.t6 0]) [.b [.aF 32 (cT N t i) (eI λk=>bif Nat.ble (cT N t i) k then s else cK pt k)]]:=by
   refine ak.conv hN ⟨VE.refl _,VE.refl _,VE.refl _,VE.refl _,trivial⟩ trivial (VE.refl _) ⟨PE.aF λk hk=>?_,trivial⟩
   have:Nat.ble (cT N t i) k=I:=by
    cases x:Nat.ble (cT N t i) k with
    |false=>rfl
    |true=>have:=aeN x;omega
   show PE [.t5 (cK pt k)] [.t5 (bif Nat.ble (cT N t i) k then s else cK pt k)]
   rw[this]
   exact PE.refl _
  have hq:∀k,A (bif Nat.ble (cT N t i) k then s else cK pt k)=32:=λk=>by
   cases Nat.ble (cT N t i) k
   ·exact lP J k
   ·exact z
  have T:(bif Nat.ble (cT N t i) (cT N t i) then s else cK pt (cT N t i))=s:=by rw[agO (aar _)];rfl
  have hr:=aap (U:=Km N t i lf pt) (t:=t) (i:=i) (lf:=lf) (pt:=pt) (nf:=nf) (D:=D) (ds:=ds) (wo:=wo) (own:=own) (cm:=cm) (M:=cT N t i) (sq:=λk=>bif Nat.ble (cT N t i) k then s else cK pt k) (s:=s) L H (by omega) hq T (fG (·.1) N t i) (dH pt (cT N t i))
  have F:TrX prog Y 0 A3 ⟨aU f20.ntmps (faA N t i lf pt nf D ds wo own s cm),[],Z⟩ TH .ret ⟨ag 140 [(8,.bool Z)],[],Z⟩ TH:=by
   rw[ahr]
   refine TrX.jh (eP [lgT h,Ie o] [(63,I)]) TH.bJ TH.cj 60 _ 4 (aaH _) _ (axY N t (Km N t i lf pt) i lf pt nf D ds wo own s cm (fG (·.1) N t i) (dH pt (cT N t i)) (cT N t i) _ h o) (apu N t (Km N t i lf pt) i lf pt nf D ds wo own s cm (fG (·.1) N t i) (dH pt (cT N t i)) (cT N t i) _ h o) ?_ hr
   refine av.2 ⟨av.2 ⟨av.2 ⟨av.2 ⟨av.2 ⟨av.2 ⟨rfl,av.2 ⟨rfl,Me rfl⟩⟩,av.2 ⟨rfl,Me rfl⟩⟩,av.2 ⟨rfl,Me z⟩⟩,av.2 ⟨rfl,Me z⟩⟩,av.2 ⟨Me (iW _ _),Me (iW _ _)⟩⟩,?_⟩
   rw[Me (rfl:iL dc s=iL dc s)];rfl
  exact eL.th (p:=λ_=>True) (λ_=>trivial) (eL.of (S:=λ_:Nat=>⟨ag 140 [(8,.bool Z)],[],Z⟩) (vs:=λ_=>[.bool Z]) func20 (c:=A3) rfl (.inl rfl) (λ_=>TH.low) (λ_=>TH.CL) (λB e w W d Q P hB G R _ V=>F B e w W d Q P hB G R trivial λe1 w1 t1 a b c=>V 0 e1 w1 t1 a b c) (λ_=>rfl) (λ_=>by kernel_rfl))
 ·have v:=apv (lf:=lf) (pt:=pt) l y w
  have u:=RB (own:=own) (s:=s) (cm:=cm) l w
  exact aP (eP [lgT h,Ie v,fmT u] []) 60 func20 (axZ N t i lf pt nf D ds wo own s cm h v u) (av.2 ⟨av.2 ⟨av.2 ⟨rfl,av.2 ⟨rfl,Me rfl⟩⟩,av.2 ⟨rfl,Me rfl⟩⟩,av.2 ⟨rfl,Me rfl⟩⟩) rfl
 ·have v:=apw (lf:=lf) (pt:=pt) l y w
  have u:=RC (own:=own) (s:=s) (cm:=cm) l w
  exact aP (eP [lgT h,Ie v,fmT u] []) 60 func20 (ax0 N t i lf pt nf D ds wo own s cm h v u) (av.2 ⟨av.2 ⟨av.2 ⟨rfl,av.2 ⟨rfl,Me rfl⟩⟩,av.2 ⟨rfl,Me rfl⟩⟩,av.2 ⟨rfl,Me rfl⟩⟩) rfl
def Ex(a:x9 N (aA t)=Z)(c:∀i,i<N->(t i).OK)(d:fh lf=Z)(e:A pt=32)(b:A s=32):ak Q 4 [.agg (qu N t i lf pt nf D ds wo++[.t6 own,.t5 s,.bool cm])] [] (.bool Z) []:=
 have h:=ahq a c d e b;aP (Ig [faE h] []) 60 func4 (axU ..) (av.2 ⟨rfl,av.2 ⟨rfl,Me rfl⟩⟩) rfl
end
end Fo
end Go.Proofs.YthlnlcijnoadcaaGreatDoor
namespace Go.Sy
open ChangeShapes WideShapes RowKit
variable {P:Program} {H:Type} {enc:TypeId×Value->H} {W:World}
def Ih{base z l}{a:Addr}{n e d b}(w:0<z)(x:0<l)
  (k:∀i,i<l->((W.cells? base (a.add (i*z)) z).bind λcs=>DataW.trod enc P W base (λ_=>Z) d n e cs)=b[i]?)(o:A b=l):∃c t fr,W.heap[a.block]?=E (.cells c t fr)/\a.spot=Y/\a.off<c.size:=by
 have q:=k 0 x;rw[aaQ (by omega),Nat.zero_mul] at q;have⟨cs,r,_⟩:=acU.1 q;have⟨G,F,y⟩:=World.cells?_some r;have p:(a.add 0)=a:=by unfold Addr.add;simp
 have g:=y 0 w;rw[p] at g;have u:=p;rw[u] at g;have h:∃v,cs[0]?=E v:=⟨cs[0],by rw[aaQ]⟩;have⟨v,h⟩:=h;rw[h] at g;obtain⟨c,t,fr,e1,e2,B⟩:=tq (by rw[<-g]);exact⟨c,t,fr,e1,e2,(abE.1 B).1⟩
def yV{α:Type}[Inhabited α](r:α->List SV)(G:α->Prop){d m z t e T F S x0}(ht:P.underlying t=E (.slice e))(hc:P.cellsOf e=z)(ad:0<z)
  (hf:DataW.trod enc P W d (λ_=>Z) F T t S=E x0)
  (each:∀(n:Nat)(cs:List Value)(y:DataW H×List MemPlace),DataW.trod enc P W d (λ_=>Z) F n e cs=E y->∃a,PR ⟨λ_=>Y,lM W,m,[],λ_=>Y⟩ (r a) cs/\G a):
  ∃(len:Nat)(f:Nat->α)(v:Value),S=[v]/\VR (mb (lM W) m) (.aO I z len (λi=>r (f i))) v/\∀i,i<len->G (f i):=by
 rcases DataW.trod_slice ht hf with⟨B,_⟩|⟨a,w,g,ae,rest,n,_,B,_,_,hl,_,Q,u,V,_⟩
 ·exact⟨0,λ_=>default,_,B,.inl ⟨rfl,Y,0,rfl,λ_=>rfl⟩,λ_ h=>by omega⟩
 ·by_cases h0:w=0
  ·exact⟨0,λ_=>default,_,B,.inl ⟨rfl,E a,g,by rw[h0],λq=>by cases q⟩,λ_ h=>by omega⟩
  rw[hc] at u V;have⟨c,t',fr,hb,hs,_⟩:=Ih ad (by omega) u Q;have K:∀k,a.add k=⟨a.block,a.off+k,Y⟩:=λk=>by
   have⟨b,o,s⟩:=a
   simp only at hs
   subst hs
   unfold Addr.add
   split
   ·rename_i h;simp[h]
   ·rfl
  have ac:∀(b o j:Nat),Addr.add ⟨b,o,Y⟩ j=⟨b,o+j,Y⟩:=λb o j=>by
   unfold Addr.add
   split
   ·rename_i h;simp[h]
   ·rfl
  have ab:∀(k:Nat)(v:Value),W.cell? (a.add k)=E v->c[a.off+k]?=E v:=λk v hk=>by
   have⟨c1,t1,f1,e1,_,e3⟩:=tq hk
   rw[K] at e1 e3
   rw[hb] at e1
   cases e1
   exact e3
  have part:∀(i:Nat)(cs:List Value),W.cells? d (a.add (i*z)) z=E cs->cs=(c.toList.drop (a.off+i*z)).take z/\a.off+i*z+z<=c.size:=λi cs p=>by
   have⟨_,q2,q3⟩:=World.cells?_some p
   have hq:∀j,j<z->∃v,cs[j]?=E v/\c[a.off+i*z+j]?=E v:=λj hj=>by
    have L:∃v,cs[j]?=E v:=⟨cs[j],by rw[aaQ]⟩
    have⟨v,L⟩:=L
    have hk:W.cell? (a.add (i*z+j))=E v:=by
     have:=q3 j hj
     rw[L] at this
     rw[<-this,K,K,ac,Nat.add_assoc]
    exact⟨v,L,by rw[Nat.add_assoc];exact ab _ v hk⟩
   have af:a.off+i*z+z<=c.size:=by
    have⟨v,_,L⟩:=hq (z-1) (by omega)
    have:=(abE.1 L).1
    omega
   refine⟨?_,af⟩
   apply agh
   intro j
   by_cases hj:j<z
   ·have⟨v,l,J⟩:=hq j hj
    rw[l,af1,ae8 hj,afO]
    simpa using J.symm
   ·rw[afs (by omega),afs (by rw[afN];omega)]
  have one:∀i,i<w->∃x:α,PR ../\G x:=λi p=>by
   have l:=u i p
   rw[aaQ (by omega)] at l
   have⟨cs,J,h3⟩:=acU.1 l
   have⟨x,hx,hg⟩:=each n cs _ h3
   rw[(part i cs J).1] at hx
   exact⟨x,hx,hg⟩
  have R:a.off+g*z<=c.size:=by
   have iM:∃cs,W.cells? d (a.add ((g-1)*z)) z=E cs:=by
    by_cases mX:g=w
    ·have l:=u (w-1) (by omega)
     rw[aaQ (by omega)] at l
     have⟨cs,J,_⟩:=acU.1 l
     exact⟨cs,by rw[mX];exact J⟩
    ·have⟨r1,r2⟩:=V rfl
     have l:=r2 (g-w-1) (by omega)
     rw[aaQ (by omega)] at l
     have⟨cs,J,_⟩:=acU.1 l
     exact⟨cs,by rw[show g-1=w+(g-w-1) by omega];exact J⟩
   have⟨cs,l⟩:=iM
   have:=(part _ cs l).2
   have e:g*z=(g-1)*z+z:=by
    rw[show g=(g-1)+1 by omega,ags,Nat.one_mul,Nat.add_sub_cancel]
   omega
  refine⟨w,λi=>if p:i<w then(one i p).choose else default,_,B,.inr ⟨a.block,a.off,g,c,t',fr,?_,?_,(λq=>by cases q),(λi p=>?_),hl,R⟩,λi p=>?_⟩
  ·have⟨b,o,s⟩:=a
   simp only at hs
   subst hs;rfl
  ·show lM W a.block=_
   unfold lM
   rw[hb]
  ·simp[dif_pos p]
   exact(one i p).choose_spec.1
  ·simp[dif_pos p]
   exact(one i p).choose_spec.2
end Go.Sy
namespace Go.Sy
open ChangeShapes WideShapes RowKit
variable {P:Program} {H:Type} {enc:TypeId×Value->H} {W:World}
def ax2(l:List Value)(h:A l=69):l=(l.drop 0).take 1++((l.drop 1).take 1++((l.drop 2).take 32++((l.drop 34).take 32++((l.drop 66).take 1++((l.drop 67).take 1++(l.drop 68).take 1))))):=by
 rw[aaT (l:=l.drop 68) (by rw[afj];omega),show l.drop 68=(l.drop 67).drop 1 by rw[afu],afA,show l.drop 67=(l.drop 66).drop 1 by rw[afu],afA,show l.drop 66=(l.drop 34).drop 32 by rw[afu],afA,
  show l.drop 34=(l.drop 2).drop 32 by rw[afu],afA,show l.drop 2=(l.drop 1).drop 1 by rw[afu],afA,agE,afA]
def ax3(l:List Value)(h:A l=103):l=(l.drop 0).take 69++((l.drop 69).take 1++((l.drop 70).take 32++(l.drop 102).take 1)):=by rw[aaT (l:=l.drop 102) (by rw[afj];omega),show l.drop 102=(l.drop 70).drop 32 by rw[afu],afA,show l.drop 70=(l.drop 69).drop 1 by rw[afu],afA,agE,afA]
structure apz(P:Program)(e tt ti tk tb td tw en e1:TypeId)(g0 g1 g2 g3 g4 g5 g6:Field):Prop where
 s:P.underlying e=some (.struct #[g0,g1,g2,g3,g4,g5,g6])
 c:P.cellsOf e=69
 ft:g0.type=tt/\g1.type=ti/\g2.type=tk/\g3.type=tk/\g4.type=tb/\g5.type=td/\g6.type=tw
 o:g0.offset=0/\g1.offset=1/\g2.offset=2/\g3.offset=34/\g4.offset=66/\g5.offset=67/\g6.offset=68
 u:P.underlying tt=some (.slice en)/\P.cellsOf tt=1/\P.cellsOf en=99
 i:P.underlying ti=some (.int .i64)/\P.cellsOf ti=1
 k:P.underlying tk=some (.array 32 e1)/\P.underlying e1=some (.int .u8)/\P.cellsOf e1=1/\P.cellsOf tk=32
 b:P.underlying tb=some (.slice e1)/\P.cellsOf tb=1
 d:P.underlying td=some (.slice tk)/\P.cellsOf td=1
 w:P.underlying tw=some (.slice ti)/\P.cellsOf tw=1
def CM{base m e tt ti tk tb td tw en e1 t0 t1 t2 t3 t4 e2 e3 g0 g1 g2 g3 g4 g5 g6 f0 f1 f2 f3 f4 f5 g d cs x}(T:apz P e tt ti tk tb td tw en e1 g0 g1 g2 g3 g4 g5 g6)(Tn:ag7 P en t0 t1 t2 t3 t4 e2 e3 f0 f1 f2 f3 f4 f5)
  (h:DataW.trod enc P W base (λ_=>Z) d g e cs=E x):∃(N:Nat)(f:Nat->aE)(i:Int)(lf pt nf:pD)(D:Nat)(ds:Nat->pD)(wo:pD),
   PR (mb (lM W) m) [.aO I 99 N (λj=>(f j).cells),.t6 i,.t5 lf,.t5 pt,.ro I .u8 nf,.aO I 32 D (λj=>[.t5 (ds j)]),.ro I .i64 wo] cs/\(∀j,j<N->(f j).OK)/\(A lf=32/\∀z∈lf,0<=z/\z<256)/\A pt=32:=by
 obtain⟨he,hc,⟨rfl,rfl,rfl,r3,rfl,rfl,rfl⟩,⟨o0,o1,o2,o3,o4,o5,o6⟩,⟨u0,u1,u2⟩,⟨i0,i1⟩,⟨k0,o,p,c⟩,⟨b0,b1⟩,⟨d0,d1⟩,⟨w0,w1⟩⟩:=T;obtain⟨xs,n',rfl,_,hl,jD,b⟩:=DataW.trod_struct he h;rw[hc] at hl;have V:=b 0 g0 rfl;have K:=b 1 g1 rfl;have w:=b 2 g2 rfl;have G:=b 3 g3 rfl;have F:=b 4 g4 rfl;have q5:=b 5 g5 rfl;have u:=b 6 g6 rfl;rw[aaQ (by rw[jD];simp)] at V K w G F q5 u;rw[o0,u1] at V;rw[o1,i1] at K;rw[o2,c] at w;rw[r3,o3,c] at G;rw[o4,b1] at F;rw[o5,d1] at q5;rw[o6,w1] at u;have⟨N,f,v0,e0,ad,B⟩:=yV (α:=aE) (λa=>a.cells) (λa=>a.OK) u0 u2 (by decide) V λn cs y v=>Oo (m:=m) Tn v;have⟨z,ab,_,_⟩:=DataW.trod_int i0 K;have⟨lf,R,l2,w2⟩:=j7 k0 o p c w;have⟨pt,L,l3,_⟩:=j7 k0 o p c G;have⟨nf,v4,S,q,_⟩:=tr (m:=m) b0 o p F;have⟨D,ds,v5,ac,r,_⟩:=yV (α:=pD) (m:=m) (λa=>[.t5 a]) (λa=>A a=32) d0 c (by decide) q5 λn cs y v=>by have⟨ks,e,l,_⟩:=j7 k0 o p c v;exact⟨ks,⟨[],rfl,by rw[bV l,acj];exact e⟩,l⟩
 have⟨wo,v6,J,Q,_⟩:=tr (m:=m) w0 i0 i1 u;have k:=ax2 cs hl;rw[e0,ab,R,L,S,ac,J] at k;subst k;refine⟨N,f,z,lf,pt,nf,D,ds,wo,?_,B,⟨l2,w2⟩,l3⟩;refine⟨_,_,ad,⟨_,_,rfl,⟨bB .u8 pt++[v4,v5,v6],⟨[v4,v5,v6],⟨_,_,q,⟨_,_,r,⟨_,_,Q,rfl,rfl⟩,rfl⟩,rfl⟩,?_⟩,?_⟩,rfl⟩,rfl⟩
 ·rw[bV l3]
 ·rw[bV l2];rfl
theorem Ey{r base g m t e tt ti tk tb td tw en e1 ts tc t0 t1 t2 t3 t4 e2 e3 q h1 h2 o g0 g1 g2 g3 g4 g5 g6 f0 f1 f2 f3 f4 f5 v d p l}(T:apz P e tt ti tk tb td tw en e1 g0 g1 g2 g3 g4 g5 g6)(Tn:ag7 P en t0 t1 t2 t3 t4 e2 e3 f0 f1 f2 f3 f4 f5)
  (S:P.underlying t=E (.struct #[q,h1,h2,o]))(hc:P.cellsOf t=103)(B:q.type=e/\h1.type=ti/\h2.type=ts/\o.type=tc)(ho:q.offset=0/\h1.offset=69/\h2.offset=70/\o.offset=102)(hS:P.underlying ts=E (.array 32 e1)/\P.cellsOf ts=32)(hC:P.underlying tc=E .bool/\P.cellsOf tc=1)
  (a:Value.okWide P W r base t v)(h:DataW.Trod enc P W g (λ_=>Z) l t v d p):
  ∃(N:Nat)(f:Nat->aE)(i:Int)(lf pt nf:pD)(D:Nat)(ds:Nat->pD)(wo:pD)(own:Int)(s:pD)(cm:Bool),
   VR (mb (lM W) m) (.agg ([.aO I 99 N (λj=>(f j).cells),.t6 i,.t5 lf,.t5 pt,.ro I .u8 nf,.aO I 32 D (λj=>[.t5 (ds j)]),.ro I .i64 wo]++[.t6 own,.t5 s,.bool cm])) v/\(∀j,j<N->(f j).OK)/\(A lf=32/\∀z∈lf,0<=z/\z<256)/\A pt=32/\A s=32:=by
 have⟨rfl,rfl,rfl,rfl⟩:=B;have⟨o0,o1,o2,o3⟩:=ho;have h':∃cs,v=.agg cs/\cs.size=P.cellsOf t/\Row.okWide P W r base t cs:=by unfold Value.okWide at a;rw[S] at a;exact a
 obtain⟨cs,rfl,ab,_⟩:=h';have⟨V,hf⟩:=h
 obtain⟨xs,n',rfl,_,hl,jD,b⟩:=DataW.trod_struct S hf
 rw[hc] at hl
 have J:=b 0 q rfl
 have y:=b 1 h1 rfl
 have u:=b 2 h2 rfl
 have x:=b 3 o rfl
 rw[aaQ (by rw[jD];simp)] at J y u x
 rw[o0,T.c] at J
 rw[o1,T.i.2] at y
 rw[o2,hS.2] at u
 rw[o3,hC.2] at x
 obtain⟨N,f,i,lf,pt,nf,D,ds,wo,hx,w,R,L⟩:=CM T Tn J
 obtain⟨own,Q,_,_⟩:=DataW.trod_int T.i.1 y
 obtain⟨s,G,l2,_⟩:=j7 hS.1 T.k.2.1 T.k.2.2.1 hS.2 u
 obtain⟨cm,F,_⟩:=DataW.trod_bool hC.1 x
 have K:cs.toList=_:=ax3 _ hl
 refine⟨N,f,i,lf,pt,nf,D,ds,wo,own,s,cm,⟨cs.toList,?_,by simp⟩,w,R,L,l2⟩
 rw[K]
 refine PR.append hx ?_
 rw[show(cs.toList.drop 69).take 1=[Value.int .i64 own] from Q,show(cs.toList.drop 70).take 32=bB .u8 s from G,show(cs.toList.drop 102).take 1=[Value.bool cm] from F]
 refine⟨_,_,rfl,⟨[Value.bool cm],⟨_,_,rfl,rfl,rfl⟩,?_⟩,rfl⟩
 rw[bV l2];rfl
end Go.Sy
namespace Go.Proofs.YthlnlcijnoadcaaGreatDoor
namespace pathFollows
open Go.ChangeShapes Go.WideShapes Go.ChangeAt Go.RowKit
set_option linter.unusedVariables false
theorem own:ownKnob prog.godebug=none:=by kernel_rfl
theorem aat:laidOutB Q=true:=by kernel_rfl
theorem plain(P:Program)(laid:List (String×DataW Unit))(w:World)(h:(laid.all λx=>x.2.handleName?.isNone)=true):laidMetH P laid w=laidMet P laid w:=by
 unfold laidMetH
 have h0:(laid.filter λx=>x.2.handleName?.isSome)=[]:=by
  rw[List.filter_eq_nil_iff]
  intro x hx
  have:=aaB.1 h x hx
  rw[Option.isNone_iff_eq_none] at this
  simp[this]
 rw[h0]
def apA:pD:=[0,1,28,2,29,14,24,3,30,22,20,15,25,17,4,8,31,27,13,23,21,19,16,7,26,12,18,6,11,5,10,9]
def afm:pD:=[0,1,56,2,57,49,28,3,61,58,42,50,38,29,17,4,62,47,59,36,45,43,51,22,53,39,33,30,24,18,12,5,63,55,48,27,60,41,37,16,46,35,44,21,52,32,23,11,54,26,40,15,34,20,31,10,25,14,19,9,13,8,7,6]
theorem aht{W:World}(h:laidMetH Q Rows.pathFollowsRow.laid W):Sy.Glb W:=by
 have h':laidMet Q Rows.pathFollowsRow.laid W:=by rwa [plain _ _ _ (by kernel_rfl)] at h
 obtain⟨ps,hL,_⟩:=h'
 obtain⟨g1,t1,cs1,f1,p1,q1,_,_,_,_,hL2,_⟩:=hL
 obtain⟨g2,t2,cs2,f2,p2,q2,b1,b2,b3,b4,_,_⟩:=hL2
 have e1:prog.globalNamed "math/bits.deBruijn64tab"=some 1:=by kernel_rfl
 obtain rfl:=ajt (e1.symm.trans b1)
 obtain rfl:=ajt ((show(prog.globals[1]?).map (·.type)=some 287 by kernel_rfl).symm.trans b2)
 have hc:=Sy.Oq (zs:=afm) (show prog.underlying 287=some (.array 64 5) by kernel_rfl) (by kernel_rfl) (by kernel_rfl) (by kernel_rfl) rfl b4
 unfold World.var? at b3
 rw[e1] at b3
 simp only[ajZ] at b3
 intro g k xs hg
 unfold Sy.RI at hg
 split at hg
 ·rename_i hb
  have hg1:g=1:=acr hb
  subst hg1
  simp only[Mf,aad] at hg
  obtain⟨rfl,rfl⟩:=hg
  split at b3
  ·rename_i cs ty fr hW
   cases b3
   exact⟨_,_,_,hW,by rw[hc];rfl⟩
  ·cases b3
 ·cases hg
def Bx(os:Os):World:=
 let w0:=World.holding Q os ⟨#[],#[],[]⟩
 {w0 with heap:=(w0.heap.modify 0 fun
   | .cells _ t frozen=>.cells ⟨Sy.bB .u8 apA⟩ t frozen
   |o=>o).modify 1 fun
   | .cells _ t frozen=>.cells ⟨Sy.bB .u8 afm⟩ t frozen
   |o=>o}
theorem Ba(os:Os)(args:Array Value):laidMetH Q Rows.pathFollowsRow.laid ((Bx os).forCall (λ_ _=>0) ⟨#[],args,[]⟩).memory:=by
 rw[plain _ _ _ (by kernel_rfl)]
 exact laidMet_of_run' 8 (by kernel_rfl) (by kernel_rfl)
theorem ahu{N:Nat}{f:Nat->Sy.aE}(h:∀i,i<N->(f i).OK):Tr.x9 N (Tr.aA f)=true:=
 aaB.2 λi hi=>by
  have hi:=h i (aaI.1 hi)
  show(decide ((f i).key.length=32)&&decide ((f i).bH.length=32)&&decide ((f i).cF.length=32))=true
  rw[Me hi.key.1,Me hi.bH.1,Me hi.cF.1];rfl
theorem ax5{N D:Nat}{f:Nat->Sy.aE}{a own:Int}{lf pt nf wo s:pD}{ds:Nat->pD}{cm:Bool}(hf:∀i,i<N->(f i).OK)(hl:lf.length=32/\∀z∈lf,0<=z/\z<256)(hp:pt.length=32)(hs:s.length=32)
  (w:World)(ax6:Sy.Glb w){y0:Value}(v0:Sy.VR (Sy.mb (Sy.lM w) w.heap.size) (.agg ([.aO false 99 N (λj=>(f j).cells),.t6 a,.t5 lf,.t5 pt,.ro false .u8 nf,.aO false 32 D (λj=>[.t5 (ds j)]),.ro false .i64 wo]++[.t6 own,.t5 s,.bool cm])) y0):
  Calls Q 4 #[y0] w λe w'=>e=.returned (.bool true)/\Below w.heap.size w w':=
 Sy.ak.below (Fo.Ex (t:=f) (i:=a) (lf:=lf) (pt:=pt) (nf:=nf) (D:=D) (ds:=ds) (wo:=wo) (own:=own) (cm:=cm) (s:=s) (ahu hf) hf (Re.j9.2 ⟨hl.1,aaB.2 λz hz=>Fe.wm.2 (hl.2 z hz)⟩) hp hs) ⟨_,_,v0,rfl,rfl⟩ ax6
set_option maxRecDepth 100000 in
theorem ahv(os:Os)(started:os.Started)(H:Type)(enc:TypeId×Value->H):
  ReturnsInHanded {} Tryz.checked os 4 .any (λw args=>(Rows.pathFollowsSpec.pre enc Q f4 [] false w args/\laidMetH Q Rows.pathFollowsRow.laid w)/\sizedMet enc Q f4 (OpenSpec.ofChange Rows.pathFollowsSpec) false w args)
   (Rows.pathFollowsSpec.post enc Q f4 false true false false):=by
 refine returnsInHanded_of_change_and (C:=Tryz.checked) (X:=λw _=>laidMetH Q Rows.pathFollowsRow.laid w) (λ_ _ _ hh h=>h.of_heap hh) own started (by kernel_rfl) func4
  (ChangeSpec.witness_at (enc:=enc) (C:=Tryz.checked) (os:=os) (X:=λw _=>laidMetH Q Rows.pathFollowsRow.laid w) false (Bx os) #[.agg (#[.slice none 0 0,.t6 0]++Array.replicate 64 (.int .u8 0)++ #[.slice none 0 0,.slice none 0 0,.slice none 0 0,.t6 0]++Array.replicate 32 (.int .u8 0)++ #[.bool false])] 8 rfl (by kernel_rfl) (by kernel_rfl) (by kernel_rfl) (by kernel_rfl) (by kernel_rfl) (Ba os _)) ?_
 intro W base args ds gs before afn hW _ _ hL _
 have hval:∀(j:Nat) t v,f4.params[j]?=some t->args[j]?=some v->Value.okWide Q W .any base t v:=afn
 have hW':=hW
 obtain⟨p,q,hA0,hV,rfl,hfz,tj⟩:=hW
 have hA:DataW.TrodAll enc Q W 0 (λ_=>true) true f4.params.toList args.toList ds p:=hA0
 rw[Tryz.params4] at hA hval
 obtain⟨v0,vs0,d0,ds0,p0,q0,ax7,rfl,rfl,h0,r0⟩:=trodAll_cons hA
 obtain⟨rfl,rfl,rfl⟩:=trodAll_nil r0
 obtain rfl:args= #[v0]:=by cases args;simp_all
 obtain⟨rfl,rfl⟩:=trodVars_none hV
 obtain⟨N,f,a,lf,pt,nf,D,ds,wo,own,s,cm,y0,hf,hl,hp,hs⟩:=Sy.Ey (P:=Q) (m:=W.heap.size) (t:=49) (e:=47) (tt:=23) (ti:=3) (tk:=25) (tb:=44) (td:=45) (tw:=27) (en:=29) (e1:=5) (ts:=26) (tc:=4) (t0:=4) (t1:=3) (t2:=25) (t3:=27) (t4:=26) (e2:=5) (e3:=3) ⟨Tryz.underlying47,by kernel_rfl,⟨rfl,rfl,rfl,rfl,rfl,rfl,rfl⟩,⟨rfl,rfl,rfl,rfl,rfl,rfl,rfl⟩,⟨by kernel_rfl,by kernel_rfl,by kernel_rfl⟩,⟨by kernel_rfl,by kernel_rfl⟩,⟨by kernel_rfl,by kernel_rfl,by kernel_rfl,by kernel_rfl⟩,⟨by kernel_rfl,by kernel_rfl⟩,⟨by kernel_rfl,by kernel_rfl⟩,⟨by kernel_rfl,by kernel_rfl⟩⟩ ⟨Tryz.underlying29,by kernel_rfl,⟨rfl,rfl,rfl,rfl,rfl,rfl⟩,⟨rfl,rfl,rfl,rfl,rfl,rfl⟩,⟨by kernel_rfl,by kernel_rfl,by kernel_rfl,by kernel_rfl,by kernel_rfl,by kernel_rfl,by kernel_rfl⟩,⟨by kernel_rfl,by kernel_rfl,by kernel_rfl,by kernel_rfl,by kernel_rfl,by kernel_rfl,by kernel_rfl⟩⟩ Tryz.underlying49 (by kernel_rfl) ⟨rfl,rfl,rfl,rfl⟩ ⟨rfl,rfl,rfl,rfl⟩ ⟨by kernel_rfl,by kernel_rfl⟩ ⟨by kernel_rfl,by kernel_rfl⟩ (hval 0 49 v0 rfl rfl) h0
 have lt:∀{t v d p},DataW.Trod enc Q W 0 (λ_=>true) true t v d p->∀x∈p,x.block<W.heap.size:=λh=>by obtain⟨m,hm⟩:=h;exact DataW.trod_lt m _ _ _ hm
 clear hA0 afn
 refine(ax5 hf hl hp hs W (aht hL) y0).mono λe W' ⟨he,bel⟩=>?_
 subst he
 exact⟨_,rfl,_,_,_,[],_,[],hW',trodAll_mk1 (shut_bool (show prog.underlying 4=some .bool by kernel_rfl) _),(trodAll_cons_mk (Below.trod aat (by kernel_rfl) (agm (by kernel_rfl)) h0 bel (lt h0)) trodAll_mk0),rfl,bel.frame _,λh=>by cases h⟩
