/- This file proves lemmas for the last one. Conditions: those in them. -/
import Derived.Test.YthlnlcijnoadcaaGreatDoorVPaG
noncomputable section
open Bool renaming true->Z,false->I
open Option renaming some->E,none->Y
open Decidable renaming decide->C
open List renaming length->A,getD->X,replicate->t9,range->t8
open Int renaming toNat->O
open Go.Proofs.Tryz
open Go.Proofs.Tryz renaming prog->Q
open Go.IntKind (i64)
set_option linter.all false
set_option maxRecDepth 100000
namespace Go.Proofs.YthlnlcijnoadcaaGreatDoor
namespace Pa
open Sy Tr Mk
def fG(f:Int×Int×Int->Int)(N:Nat)(t:Nat->aE)(i:Int):pD:=kZ f (cT N t i,j8 N t i)
def rwV(b N:Nat)(t:Nat->aE)(i:Int):SV:=match b with
 |0=>.bP [.ro Z .i64 (fG (·.1) N t i),.ro Z .i64 (fG (·.2.1) N t i),.ro Z .i64 (fG (·.2.2) N t i),.t6 0]
 |1=>acP 3
 |_=>acP 9
def Xa{N t i}(f:eo N t)(k:bq N t=eH N t){b}(h:iJ N t i=b):ak Q 54 [.p4 I N t,.t6 i] [] (rwV b N t i) []:=by
 have e:cX N (λi=>ah (aA t i))=Z:=bU f
 have ht:(ai λi=>ah (aA t i))=t:=rfl
 subst h
 cases a:iJ N t i with
 |zero=>
  obtain⟨c,hu,n,j,hn,hj,rfl,hv,hN,_⟩:=Bw f a
  have g:=acQ f (k▸c) c hu hn hj hN hv
  unfold rwV fG cT j8
  rw[hv,aaq]
  exact g
 |succ b=>
  cases b with
  |zero=>
   have c:eH N t=I:=by
    rw[<-k]
    unfold iJ at a
    cases q:bq N t with
    |false=>rfl
    |true=>rw[q] at a;cases q2:lO N t i<;>rw[q2] at a<;>cases a
   exact aP (uo _ _ _) 60 func54 (aBr N t i) (by rw[ht,e,Me f.le,c];rfl) rfl
  |succ b=>
   have c:eH N t=Z/\lO N t i=I:=by
    rw[<-k]
    unfold iJ at a
    cases q:bq N t with
    |false=>rw[q] at a;cases a
    |true=>
     rw[q] at a
     cases q2:lO N t i with
     |false=>exact⟨rfl,rfl⟩
     |true=>rw[q2] at a;cases a
   exact aP (uo _ _ _) 60 func54 (aBs N t i) (by rw[ht,e,Me f.le,c.1,c.2];rfl) rfl
def JF{N t i c a}(e:eo N t)(h:iJ N t i=0)(k:oJ N t=Z)(g:kyB (cT N t i) c=Z)(l:uE a):
  ak Q 55 [.p4 I N t,.t6 i,.ro I .i64 (fG (·.1) N t i),.ro I .i64 (fG (·.2.1) N t i),.sM a,.aO I 32 (cT N t i) (eI c)] [] (.aO Z 99 N (aA (rnV N t i c a))) []:=by obtain⟨o,r,n,j,d,f,rfl,b,hN,p⟩:=Bw e h;obtain⟨q,m⟩:=RE d f b;unfold rnV;rw[b,aaq,aaq];exact Qe e k d f hN b p o q m (Kl g) l
def afF(b:Nat):aK Q:=.val 54 _ func54 (by decide) rfl Z 0 (λvs=>match vs with
 | [.aO I 99 N g,.int .i64 i]=>E (rwV b N (ai g) i,[],cX N g&&C (N<=71)&&(bq N (ai g)==eH N (ai g))&&(iJ N (ai g) i==b))
 |_=>Y) λvs v new e=>by
 split at e
 ·simp only[Mf,aad,No,aac,afP] at e;have⟨rfl,rfl,⟨⟨c,d⟩,f⟩,h4⟩:=e;exact ak.conv (Xa (eo.of c d) f h4) ⟨VE.kM c,VE.refl _,trivial⟩ trivial (VE.refl _) trivial
 ·cases e
attribute [local instance low] Classical.propDecidable
def aaP:aK Q:=.val 55 _ func55 (by decide) rfl Z 0 (λvs=>match vs with
 | [.aO I 99 N g,.int .i64 i,.ro I .i64 ws,.ro I .i64 j,.agg [.af .u8 32 b],.aO I 32 K c]=>E (.aO Z 99 N (aA (rnV N (ai g) i (unK c) b)),[],cX N g&&C (N<=71)&&(iJ N (ai g) i==0)&&oJ N (ai g)&&C (ws=fG (·.1) N (ai g) i)&&C (j=fG (·.2.1) N (ai g) i)&&C (K=cT N (ai g) i)&&C (c=eI (unK c))&&kyB K (unK c)&&C (uE b))
 |_=>Y) λvs v new e=>by
 split at e
 ·simp only[Mf,aad,No,aac,afP] at e
  obtain⟨rfl,rfl,⟨⟨⟨⟨⟨⟨⟨⟨d,f⟩,h⟩,h4⟩,rfl⟩,rfl⟩,rfl⟩,h8⟩,h9⟩,h10⟩:=e
  have g:=JF (eo.of d f) h h4 h9 h10
  rw[<-h8] at g
  exact ak.conv g ⟨VE.kM d,VE.refl _,VE.refl _,VE.refl _,VE.refl _,VE.refl _,trivial⟩ trivial (VE.refl _) trivial
 ·cases e
section
variable {N:Nat} {t:Nat->aE} {i:Int} {u:Bool} {nm:Int} {k sg p un:pD} {S:Nat} {ks:Nat->pD} {sv:Nat->Nat}
end
end Pa
end Go.Proofs.YthlnlcijnoadcaaGreatDoor
namespace Go.Sy
section
variable {P:Program}
def ak.Xb{f z n g v ex a}(k:ak P f [.aO I z n λi=>ah (g i),.t6 a] [] v [])(o:gU v=I)(y:mU (λb=>b+1) v=v):ak P f [.b9 0 z n n ex,.t6 a] [.b [.aF z n g]] v [.b [.aF z n g]]:=λB e w c hB s R=>by
 refine(sj k (t:=Z) ?_ (λ_=>⟨o,λb r=>by cases r⟩) s R (j:=1) (.inl rfl)).mono ?_
 ·simp[mL,cA,aa]
 ·rintro en B ⟨x,rfl,e2,l,d,q⟩
  rw[y] at l
  refine⟨x,rfl,e2,q.m,l,?_⟩
  have:cO [Blk.b [.aF z n g]] 1 (([]:List Blk).map (shB 1))=[.b [.aF z n g]]:=by simp[cO]
  rw[this] at d;exact d
def PE.atL z{a b c g}(s:aC a=z)(h:aC b=z)(m:aC c=z)(v:dI a=Z)(o:dI b=Z)(r:dI c=Z)(n:g 0=a)(h1:g 1=b)(h2:g 2=c):PE (a++(b++c)) [.aF z 3 g]:=by
 refine⟨by simp[aC,kf,eE,s,h,m];omega,λe B q=>?_⟩
 obtain⟨j,x,rfl,d,qr⟩:=q.split
 obtain⟨l,w,rfl,f,e⟩:=qr.split
 have l0:=d.length
 have y:=f.length
 have F:=e.length
 refine PR.jO.2 ⟨j++(l++w),[],by simp;omega,λi D=>?_,rfl,by simp⟩
 rcases i with _|_|_|i
 ·rw[Nat.zero_mul,agE,List.take_left' (by omega),n];exact d.closed v
 ·rw[show(0+1)*z=z by omega,List.drop_left' (by omega),List.take_left' (by omega),h1];exact f.closed o
 ·rw[show(0+1+1)*z=z+z by omega, <-aeH,List.drop_left' (by simp;omega),aaT (by omega),h2];exact e.closed r
 ·omega
def PE.acT z{a b c g}(G:aC a=z)(y:aC b=z)(m:aC c=z)(H:dI a=Z)(D:dI b=Z)(F:dI c=Z)(B:g 0=a)(h1:g 1=b)(h2:g 2=c):PE [.aF z 3 g] (a++(b++c)):=by
 refine⟨by simp[aC,kf,eE,G,y,m];omega,λe f q=>?_⟩
 obtain⟨j,zs,l,r,o,rfl⟩:=PR.jO.1 q
 rw[PR] at o;subst o
 rw[acj]
 have n:=λ{d f} m h=>PR.cN (e:=⟨λ_=>Y,e.z,e.n0,[],λ_=>Y⟩) (e':=e) (λ_ _ h=>h) (aar _) d f (λj p v _=>by rw[e6 m] at v;cases v) h
 have w:=r 0 (by omega)
 have x:=r 1 (by omega)
 have s:=r 2 (by omega)
 rw[B,Nat.zero_mul,agE] at w
 rw[h1,Nat.one_mul] at x
 rw[h2,show 2*z=z+z by omega,aaT (by simp;omega)] at s
 have e1:j=j.take z++((j.drop z).take z++j.drop (z+z)):=by
  rw[<-afu,afA,afA]
 rw[e1]
 exact(n H w).append ((n D x).append (n F s))
end
end Go.Sy
namespace Go.Proofs.YthlnlcijnoadcaaGreatDoor
namespace Pa
open Sy Tr Mk
def lkB:Code:=aI f14
def lkS(N:Nat)(t:Nat->aE)(i:Int):St:=⟨ag 21 [(5,.p4 I N t),(6,.t6 N),(7,.t6 i)],[],Z⟩
def Ca N t:aD (az [5,6,7] 0 ((bh Q (Gd []) 60 0 2 (aH lkB) ⟨aU f14.ntmps [.p4 I N t],[],Z⟩).x3))=(E (.normal,(lkS N t 0).t,[]),(Z)):=by kernel_rfl
def Ml N t i:aD (az [5,6,7] 0 (exec Q (Gd [(8,Z),(13,I),(18,I)]) 60 0 (aj (aj (aJ 2 lkB))) (lkS N t i)))=(E (.normal,(lkS N t (i64.wrap (i+1))).t,[]),(aa (aa (aa (aa (aa Z (C (i<(N:Int)))) (bC i N)) (Z&&(C (O i<N)&&Z))) !C (i>20)) !C (((t (O i)).un.length:Int)>50))):=by kernel_rfl
def atN N t i:=bu (Ml N t i)
def akK N t i:=bz (Ml N t i)
def Xd N t i:aD (az [2] 0 (exec Q (Gd [(8,Z),(13,Z)]) 60 0 (aj (aj (aJ 2 lkB))) (lkS N t i)))=(E (.ret,(P2 21 2 Z).t,[]),(aa (aa (aa (aa Z (C (i<(N:Int)))) (bC i N)) (Z&&(C (O i<N)&&Z))) (C (i>20)))):=by kernel_rfl
def Xe N t i:aD (az [2] 0 (exec Q (Gd [(8,Z),(13,I),(18,Z)]) 60 0 (aj (aj (aJ 2 lkB))) (lkS N t i)))=(E (.ret,(P2 21 2 Z).t,[]),(aa (aa (aa (aa (aa Z (C (i<(N:Int)))) (bC i N)) (Z&&(C (O i<N)&&Z))) !C (i>20)) (C (((t (O i)).un.length:Int)>50)))):=by kernel_rfl
def Gv N t i:aD (az [] 0 (exec Q (Gd [(8,I)]) 60 0 (aj (aj (aJ 2 lkB))) (lkS N t i)))=(E (.exit 0,ag 21 [],[]),(aa Z !C (i<(N:Int)))):=by kernel_rfl
section
variable {N M:Nat} {t u:Nat->aE}
def lkJ(t:Nat->aE)(i:Nat):Bool:=!C ((i:Int)>20)&&!C (((t i).un.length:Int)>50)
def jF(N:Nat)(t:Nat->aE):Bool:=cR (lkJ t) N (λ_=>Z) I
def Qf:ak Q 14 [.p4 I N t] [] (.bool (jF N t)) []:=by
 have d:=ak.qD (h:=[]) func14 rfl 2 0 (λj:Nat=>lkS N t (j:Int)) (lkJ t) N
  (λx s' g=>TrL.i6 (s1:=lkS N t (0:Int)) (iO []) (by simp) (Ca N t) rfl (by decide) rfl g) (by decide) rfl
  (λj a c _=>?_) (λi=>P2 21 2 Z) (λi=>[.bool Z]) (λj a c _=>⟨?_,rfl,rfl⟩) (sE:=⟨ag 21 [],[],Z⟩) (A4:=P2 21 2 I) (vE:=[.bool I]) (xE:=.ret) (λ_=>?_) (λ_=>⟨?_,.inl rfl,rfl,rfl⟩)
 ·rw[de (g:=SV.bool) (vF:=λ_:Nat=>Z) (vE:=I)] at d;exact d
 ·unfold lkJ at c;have⟨b,h2⟩:=agQ.1 c;have h20:¬((j:Int)>20):=by intro q;rw[Me q] at b;cases b
  have e:=atN N t j
  rw[dm (by omega)] at e
  exact Tr.bg (iO [(8,Z),(13,I),(18,I)]) 60 _ 0 (aar _) (s':=lkS N t ((j+1:Nat):Int)) _ e (akK ..) (by
   rw[aaq,g8 a,bW a,Me a,b,h2];rfl)
 ·cases b:C ((j:Int)>20) with
  |true=>exact Tr.i7 (s':=P2 21 2 Z) (iO [(8,Z),(13,Z)]) (aar _) (Xd ..) (by rw[aaq,g8 a,bW a,Me a,b];rfl)
  |false=>
   unfold lkJ at c
   rw[b] at c
   have h2:C (((t j).un.length:Int)>50)=Z:=by simpa using c
   exact Tr.i7 (s':=P2 21 2 Z) (iO [(8,Z),(13,I),(18,Z)]) (aar _) (Xe ..) (by rw[aaq,g8 a,bW a,Me a,b,h2];rfl)
 ·exact Tr.i7 (s':=⟨ag 21 [],[],Z⟩) (iO [(8,I)]) (aar _) (Gv ..) (by rw[gV (aar _)];rfl)
 ·exact TrL.rest (iO []) 60 rfl rfl
def Oz(h:jF N t=I):N<=21:=by unfold jF cR at h;cases a:cV (lkJ t) N with
 |some j=>rw[a] at h;cases h
 |none=>
  refine Classical.byContradiction λg=>?_
  have:=dz a 21 (by omega)
  unfold lkJ at this
  rw[Me (show((21:Nat):Int)>20 by omega)] at this
  cases this
def OA(h:jF N t=I):∀i,i<N->(t i).un.length<=274877906944:=by unfold jF cR at h;cases a:cV (lkJ t) N with
 |some j=>rw[a] at h;cases h
 |none=>
  intro i c
  have:=dz a i c
  unfold lkJ at this
  have b:=(agQ.1 this).2
  refine Classical.byContradiction λg=>?_
  rw[Me (show((t i).un.length:Int)>50 by omega)] at b
  cases b
end
def aaY:aK Q:=.val 14 _ func14 (by decide) rfl Z 0 (λvs=>match vs with
 | [.aO I 99 N g]=>E (.bool (jF N (ai g)),[],x9 N g)
 |_=>Y) λvs v new e=>by
 split at e
 ·rename_i N g
  simp only[Mf,aad] at e
  have⟨rfl,rfl,b⟩:=e
  exact ak.conv (Qf) ⟨VE.Sb λi c=>On (aaB.1 b i (aaI.2 c)),trivial⟩ trivial (VE.refl _) trivial
 ·cases e
abbrev tA:Nat->aE:=λ_=>Jz Z 1 Mk.cG Mk.cG Mk.cG
abbrev tB:Nat->aE:=λi=>match i with
 |0=>Jz Z 1 Mk.cG Mk.cG Mk.cG
 |1=>Jz I 0 Mk.cG Mk.cG Mk.cG
 |_=>Jz Z 2 Mk.cG Mk.cG Mk.cG
def Bp(t:Nat->aE):Nat->List SV:=λi=>sR (t i).used (t i).name (t i).key (t i).bH (t i).cF
def Xf:List SV:=sR Z 1 Mk.cG Mk.cG Mk.cG++(sR I 0 Mk.cG Mk.cG Mk.cG++sR Z 2 Mk.cG Mk.cG Mk.cG)
def wyC:cu:=mk [y6 0] [] (uT [])
def Xg:aq Q wyC:=au _ aN.nil _ _
def acX:ak Q 25 [.p4 I 1 tA,.t6 0] [] (.bP [dx,.nl .nilIface]) []:=ak.bZ Xg func25 (n:=60) rfl
def acY:ak Q 25 [.p4 I 3 tB,.t6 1] [] (.bP [.ro Z .i64 [1],.nl .nilIface]) []:=by have k:ak Q 25 [.p4 I 3 tB,.t6 1] [] (.bP [.sl 2 0 0 1 1 1 I Z,.nl .nilIface]) [.b [.t6 1,.t6 2,.t6 0],.b [.af .i64 1 [1]],.b [.af .i64 1 [1]]]:=ak.bZ Xg func25 (n:=60) rfl;have k:=ak.yY (u:=.bP [.sl 0 0 0 1 1 1 I Z,.nl .nilIface]) [2] k rfl;exact k.fz 0 0 (aaH _) (aaH _) rfl (by simp[qp,qj,qk,av])
def Mm t(l:∀i,(t i).un=[]) n:VE (.aO I 99 n λi=>ah (Bp t i)) (.p4 I n t):=λe x g=>by
 rcases g with h|⟨m,o,cap,c,r,f,v,a,b,s,d,j⟩
 ·exact .inl h
 ·refine .inr ⟨m,o,cap,c,r,f,v,a,b,λi w=>?_,d,j⟩
  have y:PE (Bp t i) (t i).cells:=by
   have q:PE (sR (t i).used (t i).name (t i).key (t i).bH (t i).cF) (Jz (t i).used (t i).name (t i).key (t i).bH (t i).cF).cells:=PE.iM (ps:=[.bool (t i).used,.t6 (t i).name,.t5 (t i).key,.t5 (t i).bH,.t5 (t i).cF]) rfl rfl (VE.xV I .i64)
   have e:(Jz (t i).used (t i).name (t i).key (t i).bH (t i).cF)=t i:=by unfold Jz;rw[<-l i]
   rw[e] at q;exact q
  exact y.2 _ _ (s i w)
def Xh:ak Q 25 [.sl 0 0 0 99 1 1 Z Z,.t6 0] [.b (sR Z 1 Mk.cG Mk.cG Mk.cG)] (.bP [dx,.nl .nilIface]) [.b (sR Z 1 Mk.cG Mk.cG Mk.cG)]:=by have k:=ak.Xb (ex:=Z) (ak.conv acX ⟨Mm tA (λ_=>rfl) 1,VE.refl _,trivial⟩ trivial (VE.refl _) trivial) rfl rfl;have c:PE (sR Z 1 Mk.cG Mk.cG Mk.cG) [.aF 99 1 (Bp tA)]:=PE.one 99 rfl rfl (PE.refl _);have d:PE [.aF 99 1 (Bp tA)] (sR Z 1 Mk.cG Mk.cG Mk.cG):=PE.atd 99 rfl rfl;exact ak.conv k ⟨VE.wV 0 99 1 1 Z Z,VE.refl _,trivial⟩ ⟨c,trivial⟩ (VE.refl _) ⟨d,trivial⟩
def Xi:ak Q 25 [.sl 0 0 0 99 3 3 I Z,.t6 1] [.b Xf] (.bP [.ro Z .i64 [1],.nl .nilIface]) [.b Xf]:=by have k:=ak.Xb (ex:=I) (ak.conv acY ⟨Mm tB (λi=>by rcases i with _|_|i<;>rfl) 3,VE.refl _,trivial⟩ trivial (VE.refl _) trivial) rfl rfl;have e:PE Xf [.aF 99 3 (Bp tB)]:=PE.atL 99 rfl rfl rfl rfl rfl rfl rfl rfl rfl;have f:PE [.aF 99 3 (Bp tB)] Xf:=PE.acT 99 rfl rfl rfl rfl rfl rfl rfl rfl rfl;exact ak.conv k ⟨VE.wV 0 99 3 3 I Z,VE.refl _,trivial⟩ ⟨e,trivial⟩ (VE.refl _) ⟨f,trivial⟩
def Xj:List SV->List Nat
 | .sl b _ _ _ _ _ _ _::_=>[b]
 |_=>[]
def svB:SV->SV->Bool
 | .bool a,.bool b=>a==b
 | .int k a,.int c b=>C (k=c)&&C (a=b)
 | .af k n l,.af c d e=>C (k=c)&&C (n=d)&&C (l=e)
 | .nl (.slice Y 0 0),.nl (.slice Y 0 0)=>Z
 |_,_=>I
def akM{a b}(h:svB a b=Z):a=b:=by
 unfold svB at h;split at h
 ·rw[eq_of_beq h]
 ·simp only[No,aac] at h;rw[h.1,h.2]
 ·simp only[No,aac] at h;rw[h.1.1,h.1.2,h.2]
 ·rfl
 ·cases h
def Xk:List SV->List SV->Bool
 | [],[]=>Z
 |a::l,b::m=>svB a b&&Xk l m
 |_,_=>I
def DW:∀{a b},Xk a b=Z->a=b
 | [],[],_=>rfl
 |a::l,b::m,h=>by rw[Xk,No] at h;rw[akM h.1,DW h.2]
 | [],_::_,h=>by cases h
 |_::_,[],h=>by cases h
def atS:aK Q:=.rdm 25 _ func25 (by decide) rfl Xj (λus d=>match us,d with
 | [.sl 0 0 0 99 1 1 Z Z,.int .i64 a],[.b c]=>E (.bP [dx,.nl .nilIface],Xk c (sR Z 1 Mk.cG Mk.cG Mk.cG)&&C (a=0))
 | [.sl 0 0 0 99 3 3 I Z,.int .i64 a],[.b c]=>E (.bP [.ro Z .i64 [1],.nl .nilIface],Xk c Xf&&C (a=1))
 |_,_=>Y) λus d v e=>by
 split at e
 ·simp only[Mf,aad,No,aac] at e
  obtain⟨rfl,h,rfl⟩:=e
  rw[DW h]
  exact Xh
 ·simp only[Mf,aad,No,aac] at e
  obtain⟨rfl,h,rfl⟩:=e
  rw[DW h]
  exact Xi
 ·cases e
def atT:cu:=mk [atS] [] (uT [])
def acZ:aq Q atT:=au _ aN.nil _ _
def ac0:(aV Q atT 60 f13 [] []).v3=E (.bool Z,Z):=by kernel_rfl
def Iy:ak Q 13 [] [] (.bool Z) []:=aP acZ 60 func13 ac0 rfl rfl
end Pa
namespace Fo
open Sy Sh La Re Tr Pa Mk Wi
def yu lb sec:fh (iL lb sec)=Z:=j9.2 ⟨iW _ _,by rw[iL,bD,Kd.yX,Q2.EE];refine aaB.2 λx a=>?_;have:=Kd.aaw _ _ x a;simp[Fe.u8,Fe.inU,this]⟩
def Ko:aK Q:=.val 98 _ func98 (by decide) rfl I 0 (λvs=>match vs with
 | [.agg [.af .u8 32 a],.str b]=>E (.sM (iL b a),[],C (A a=32)&&C (A b<=255))
 |_=>Y) λvs v new e=>by
 split at e
 ·rename_i a b
  simp only[Mf,aad,No,aac] at e
  have⟨rfl,rfl,d,c⟩:=e
  exact OE d c
 ·cases e
def EF:aK Q:=.val 99 _ func99 (by decide) rfl I 0 (λvs=>match vs with
 | [.agg [.af .u8 32 a],.str b]=>E (.sM (iL b a),[],C (A a=32)&&(C (b=jl)||C (b=dc)))
 |_=>Y) λvs v new e=>by
 split at e
 ·rename_i a b
  simp only[Mf,aad,No,agV,aac] at e
  have⟨rfl,rfl,d,c⟩:=e
  exact Ij d c
 ·cases e
def nkC:cu:=mk [Ko,EF] []
def RO:aq Q nkC:=au _ aN.nil _ _
def ahC sec:(aV Q nkC 60 f61 [.sM sec] []).v3=E (.sM (iL dc sec),aa Z (aa Z (C (A sec=32)&&Z))):=by kernel_rfl
def aax sec:(aV Q nkC 60 f62 [.sM sec] []).v3=E (.sM (iL dc sec),aa Z (aa Z (C (A sec=32)&&Z))):=by kernel_rfl
def Ik{sec}(h:A sec=32):ak Q 61 [.sM sec] [] (.sM (iL dc sec)) []:=
 aP RO 60 func61 (ahC sec) (by rw[Me h];rfl) rfl
def EG{sec}(h:A sec=32):ak Q 62 [.sM sec] [] (.sM (iL dc sec)) []:=
 aP RO 60 func62 (aax sec) (by rw[Me h];rfl) rfl
def EH:aK Q:=.val 61 _ func61 (by decide) rfl I 0 (λvs=>match vs with
 | [.agg [.af .u8 32 a]]=>E (.sM (iL dc a),[],C (A a=32))
 |_=>Y) λvs v new e=>by
 split at e
 ·simp only[Mf,aad,aac] at e;have⟨rfl,rfl,b⟩:=e;exact Ik b
 ·cases e
def wv:aK Q:=.val 62 _ func62 (by decide) rfl I 0 (λvs=>match vs with
 | [.agg [.af .u8 32 a]]=>E (.sM (iL dc a),[],C (A a=32))
 |_=>Y) λvs v new e=>by
 split at e
 ·simp only[Mf,aad,aac] at e;have⟨rfl,rfl,b⟩:=e;exact EG b
 ·cases e
def afq:cu:=mk [aay] []
def RP:aq Q afq:=au _ aN.nil _ _
def ahD sec:(aV Q afq 60 f66 [.sM sec] []).v3=E (.agg [.t5 sec,.t5 (iK sec 9)],aa Z (aa Z (fh sec))):=by kernel_rfl
def OF{sec}(h:fh sec=Z):ak Q 66 [.sM sec] [] (.agg [.t5 sec,.t5 (iK sec 9)]) []:=
 aP RP 60 func66 (ahD sec) (by rw[h];rfl) rfl
def Il(sec:pD):pD:=iK (iL dc sec) 9
def aaz:aK Q:=.val 66 _ func66 (by decide) rfl I 0 (λvs=>match vs with
 | [.agg [.af .u8 32 a]]=>E (.agg [.t5 a,.t5 (iK a 9)],[],fh a)
 |_=>Y) λvs v new e=>by
 split at e
 ·simp only[Mf,aad] at e;have⟨rfl,rfl,b⟩:=e;exact OF b
 ·cases e
def uQ:cu:=mk [EH,aaz] []
def RQ:aq Q uQ:=au _ aN.nil _ _
def ahE sec:(aV Q uQ 60 f68 [.sM sec] []).v3=E (.agg [.t5 (iL dc sec),.t5 (Il sec)],aa (aa Z (aa Z (C (A sec=32)))) (aa Z (fh (iL dc sec)))):=by kernel_rfl
def aaA{sec}(h:A sec=32):ak Q 68 [.sM sec] [] (.agg [.t5 (iL dc sec),.t5 (Il sec)]) []:=
 aP RQ 60 func68 (ahE sec) (by rw[Me h,yu];rfl) rfl
def apG:aK Q:=.val 68 _ func68 (by decide) rfl I 0 (λvs=>match vs with
 | [.agg [.af .u8 32 a]]=>E (.agg [.t5 (iL dc a),.t5 (Il a)],[],C (A a=32))
 |_=>Y) λvs v new e=>by
 split at e
 ·simp only[Mf,aad,aac] at e;have⟨rfl,rfl,b⟩:=e;exact aaA b
 ·cases e
def cK(s:pD):Nat->pD
 |0=>s
 |i+1=>iL jl (cK s i)
def HJ(l:List (Nat×Bool)):cu:=mk [Ko,EF] [] (uT l)
def jI l:aq Q (HJ l):=au _ aN.nil _ _
def chB:Code:=aI f67
def chS(a:Int)(c:Nat->pD)(n:Nat)(d:pD)(i:Int):St:=⟨ag 23 [(1,.t6 a),(2,.r5 0),(5,.r5 1),(6,.b9 2 32 n n I),(7,.t6 a),(8,.t6 i)],[.b [.t5 d],.b [.t5 cG],.b [.aF 32 n (eI c)]],Z⟩
def RR many(s:pD):aD (az [1,2,5,6,7,8] 2 ((bh Q (HJ []) 60 0 3 (aH chB) ⟨aU f67.ntmps [.sM s,.t6 many],[],Z⟩).x3))=(E (.normal,ag 23 [(1,.t6 many),(2,.r5 0),(5,.r5 1),(6,.nl (.slice Y 0 0)),(7,.t6 many),(8,.t6 0)],[.b [.t5 s],.b [.t5 cG]]),(Z)):=by kernel_rfl
def RS many c n(a:pD) i:aD (az [1,2,5,6,7,8] 3 (exec Q (HJ [(9,Z)]) 60 0 (aj (aj (aJ 3 chB))) (chS many c n a i)))=(E (.normal,(chS many c (n+1) (iL jl a) (i64.wrap (i+1))).t,[.b [.t5 (iL jl a)],.b [.t5 cG],.b [.aF 32 (n+1) λj=>bF (Nat.ble (j+1) n) (eI c j) [.t5 a]]]),(aa (aa (aa Z (C (i<many))) (aa (aa Z (C (n<=n))) (C (n+1<=2^38)))) (aa Z (C (A a=32)&&Z)))):=by kernel_rfl
def aym many c n cur i:=bu (RS many c n cur i)
def apI many c n cur i:=bz (RS many c n cur i)
def RT many c n(a:pD) i:aD (az [1,2,5,6] 3 (exec Q (HJ [(9,I)]) 60 0 (aj (aj (aJ 3 chB))) (chS many c n a i)))=(E (.exit 0,ag 23 [(1,.t6 many),(2,.r5 0),(5,.r5 1),(6,.b9 2 32 n n I)],(chS many c n a i).h),(aa Z !C (i<many))):=by kernel_rfl
def RU many c n(a:pD):aD (az [4,5] 3 (eM Q (HJ [(18,I)]) 60 0 ((aH chB).drop 4) ⟨ag 23 [(1,.t6 many),(2,.r5 0),(5,.r5 1),(6,.b9 2 32 n n I)],(chS many c n a 0).h,Z⟩))=(E (.ret,ag 23 [(4,.b9 2 32 n n I),(5,.r5 1)],[.b [.t5 a],.b [.t5 a],.b [.aF 32 n (eI c)]]),(aa Z !many==0)):=by kernel_rfl
def RV many c n(a:pD):aD (az [4,5] 3 (eM Q (HJ [(18,Z)]) 60 0 ((aH chB).drop 4) ⟨ag 23 [(1,.t6 many),(2,.r5 0),(5,.r5 1),(6,.b9 2 32 n n I)],(chS many c n a 0).h,Z⟩))=(E (.ret,ag 23 [(4,.b9 2 32 n n I),(5,.r5 1)],[.b [.t5 (iL jl a)],.b [.t5 (iL jl a)],.b [.aF 32 n (eI c)]]),(aa (aa Z (many==0)) (aa Z (C (A a=32)&&Z)))):=by kernel_rfl
def Im:Code:=aI f71
def crS(a:Int)(s:pD)(c:Nat->pD)(n:Nat)(d:pD)(i:Int):St:=⟨ag 27 [(1,.t6 a),(2,.r5 0),(5,.r5 1),(6,.b9 3 32 n n I),(7,.r5 2),(8,.t6 i)],[.b [.t5 s],.b [.t5 cG],.b [.t5 d],.b [.aF 32 n (eI c)]],Z⟩
def RW(a:Int)(s:pD):aD (az [1,2,5,6,7,8] 3 ((bh Q (HJ []) 60 0 4 (aH Im) ⟨aU f71.ntmps [.sM s,.t6 a],[],Z⟩).x3))=(E (.normal,ag 27 [(1,.t6 a),(2,.r5 0),(5,.r5 1),(6,.nl (.slice Y 0 0)),(7,.r5 2),(8,.t6 0)],[.b [.t5 s],.b [.t5 cG],.b [.t5 s]]),(Z)):=by kernel_rfl
def RX(d:Int)(s:pD)(c:Nat->pD)(n:Nat)(a:pD)(i:Int):aD (az [1,2,5,6,7,8] 4 (exec Q (HJ [(12,Z)]) 60 0 (aj (aj (aJ 4 Im))) (crS d s c n a i)))=(E (.normal,(crS d s c (n+1) (iL jl a) (i64.wrap (i+1))).t,[.b [.t5 s],.b [.t5 cG],.b [.t5 (iL jl a)],.b [.aF 32 (n+1) λj=>bF (Nat.ble (j+1) n) (eI c j) [.t5 a]]]),(aa (aa (aa Z (C (i<d))) (aa (aa Z (C (n<=n))) (C (n+1<=2^38)))) (aa Z (C (A a=32)&&Z)))):=by kernel_rfl
def ayr many s c n cur i:=bu (RX many s c n cur i)
def apN many s c n cur i:=bz (RX many s c n cur i)
def RY(a:Int)(s:pD)(c:Nat->pD)(n:Nat)(b:pD)(i:Int):aD (az [1,2,5,6,7] 4 (exec Q (HJ [(12,I)]) 60 0 (aj (aj (aJ 4 Im))) (crS a s c n b i)))=(E (.exit 0,ag 27 [(1,.t6 a),(2,.r5 0),(5,.r5 1),(6,.b9 3 32 n n I),(7,.r5 2)],(crS a s c n b i).h),(aa Z !C (i<a))):=by kernel_rfl
def RZ(a:Int)(s:pD)(c:Nat->pD)(n:Nat)(d:pD):aD (az [4,5] 4 (eM Q (HJ [(22,I)]) 60 0 ((aH Im).drop 5) ⟨ag 27 [(1,.t6 a),(2,.r5 0),(5,.r5 1),(6,.b9 3 32 n n I),(7,.r5 2)],(crS a s c n d 0).h,Z⟩))=(E (.ret,ag 27 [(4,.b9 3 32 n n I),(5,.r5 1)],[.b [.t5 s],.b [.t5 d],.b [.t5 d],.b [.aF 32 n (eI c)]]),(aa Z !a==0)):=by kernel_rfl
def R4(a:Int)(s:pD)(c:Nat->pD)(n:Nat)(d:pD):aD (az [4,5] 4 (eM Q (HJ [(22,Z)]) 60 0 ((aH Im).drop 5) ⟨ag 27 [(1,.t6 a),(2,.r5 0),(5,.r5 1),(6,.b9 3 32 n n I),(7,.r5 2)],(crS a s c n d 0).h,Z⟩))=(E (.ret,ag 27 [(4,.b9 3 32 n n I),(5,.r5 1)],[.b [.t5 s],.b [.t5 (iL jl s)],.b [.t5 (iL jl s)],.b [.aF 32 n (eI c)]]),(aa (aa Z (a==0)) (aa Z (C (A s=32)&&Z)))):=by kernel_rfl
def dH(s:pD)(M:Nat):pD:=bif Nat.beq M 0 then iL jl s else cK s M
def lP{s:pD}(a:A s=32):∀i,A (cK s i)=32
 |0=>a
 |_+1=>iW _ _
def aam{s:pD}(a:A s=32)(M:Nat):A (dH s M)=32:=by
 unfold dH
 cases Nat.beq M 0 with
 |true=>exact iW _ _
 |false=>exact lP a M
def qv(c:Nat->pD)(n:Nat):∀i,i<n+1->PE (bF (Nat.ble (i+1) n) (eI c i) [.t5 (c n)]) (eI c i):=λi b=>by
 by_cases h:i<n
 ·rw[agO (by omega)];exact PE.refl _
 ·obtain rfl:i=n:=by omega
  rw[show Nat.ble (i+1) i=I from by
   cases a:Nat.ble (i+1) i with
   |false=>rfl
   |true=>have:=aeN a;omega]
  exact PE.refl _
def fzB{e e' z len cap n ex g}{xs:pD}{x}(H:∀y,VR e (.b9 0 z len cap ex) y->VR e' (.aO Z z len g) y)(c:VR e (.bP [.b9 0 z len cap ex,.agg [.af .u8 n xs]]) x):VR e' (.bP [.aO Z z len g,.agg [.af .u8 n xs]]) x:=by obtain⟨i,⟨y,j,h,⟨f,a,d,b,rfl⟩,rfl⟩,rfl⟩:=c;exact⟨_,⟨y,_,H y h,⟨f,a,d,b,rfl⟩,rfl⟩,rfl⟩
section
variable {s:pD} {M:Nat}
def R5:(aH chB).drop 4≠[]:=by
 intro q;have:A ((aH chB).drop 4)=4:=by kernel_rfl
 rw[q] at this;cases this
def Kp:(aH Im).drop 5≠[]:=by
 intro q;have:A ((aH Im).drop 5)=4:=by kernel_rfl
 rw[q] at this;cases this
def R6(f:A s=32)(hM:M<=1000):ak Q 67 [.sM s,.t6 M] [] (.bP [.aO Z 32 M (eI (cK s)),.sM (dH s M)]) []:=by
 refine ak.uR (v:=.bP [.b9 0 32 M M I,.sM (dH s M)]) (aar _) (λe e' x _ _ H l=>fzB H l) ?_
 refine ak.yY (v:=.bP [.b9 2 32 M M I,.sM (dH s M)]) (h1:=[.b [.t5 (dH s M)],.b [.t5 (dH s M)],.b [.aF 32 M (eI (cK s))]]) [2] ?_ rfl
 refine ak.sW func67 rfl 3 0 (λj=>chS M (cK s) j (cK s j) (j:Int)) M
  (λy s' g=>TrL.i6 (jI []) (aaH _) (RR M s) rfl (by decide) rfl (TrL.pre g (bG.uU 6 rfl 32 (eI (cK s)) I) (by intro q;cases q))) (by decide) rfl
  (λj k=>?_) (sE:=⟨ag 23 [(1,.t6 M),(2,.r5 0),(5,.r5 1),(6,.b9 2 32 M M I)],(chS M (cK s) M (cK s M) 0).h,Z⟩) (s':=⟨ag 23 [(4,.b9 2 32 M M I),(5,.r5 1)],[.b [.t5 (dH s M)],.b [.t5 (dH s M)],.b [.aF 32 M (eI (cK s))]],Z⟩) (x:=.ret) (v:=[.b9 2 32 M M I,.sM (dH s M)]) ?_ ?_ (.inl rfl) rfl
 ·have e:=aym M (cK s) j (cK s j) j
  rw[dm (by omega)] at e
  refine Tr.post (s1:=⟨(chS M (cK s) (j+1) (cK s (j+1)) (j+1:Int)).t,[.b [.t5 (iL jl (cK s j))],.b [.t5 cG],.b [.aF 32 (j+1) λi=>bF (Nat.ble (i+1) j) (eI (cK s) i) [.t5 (cK s j)]]],Z⟩) (Tr.bg (jI [(9,Z)]) 60 _ 3 (aaH _) _ e (apI M (cK s) j (cK s j) j) ?_) (bG.tD ⟨PE.refl _,PE.refl _,PE.aF (qv (cK s) j),trivial⟩)
  rw[g8 k,Me (lP f j),Me (aar j),Me (by omega)]
  rfl
 ·exact Tr.i7 (jI [(9,I)]) (aaH _) (RT M (cK s) M (cK s M) M) (by rw[gV (aar _)];rfl)
 ·cases M with
  |zero=>exact TrL.i8 (jI [(18,Z)]) (aaH _) (RV 0 (cK s) 0 (cK s 0)) (by rw[Me (show(cK s 0).length=32 from f)];rfl) R5
  |succ M=>exact TrL.i8 (jI [(18,I)]) (aaH _) (RU (M+1:Int) (cK s) (M+1) (cK s (M+1))) (by rw[show((M+1:Int)==0)=I from ahR.2 (by omega)];rfl) R5
def yZ(f:A s=32)(hM:M<=1000):ak Q 71 [.sM s,.t6 M] [] (.bP [.b9 0 32 M M I,.sM (dH s M)]) [.b [.aF 32 M (eI (cK s))]]:=by
 refine ak.yY (v:=.bP [.b9 3 32 M M I,.sM (dH s M)]) (h1:=[.b [.t5 s],.b [.t5 (dH s M)],.b [.t5 (dH s M)],.b [.aF 32 M (eI (cK s))]]) [3] ?_ rfl
 refine ak.sW func71 rfl 4 0 (λj=>crS M s (cK s) j (cK s j) (j:Int)) M
  (λy s' g=>TrL.i6 (jI []) (aaH _) (RW M s) rfl (by decide) rfl (TrL.pre g (bG.uU 6 rfl 32 (eI (cK s)) I) (by intro q;cases q))) (by decide) rfl
  (λj k=>?_) (sE:=⟨ag 27 [(1,.t6 M),(2,.r5 0),(5,.r5 1),(6,.b9 3 32 M M I),(7,.r5 2)],(crS M s (cK s) M (cK s M) 0).h,Z⟩) (s':=⟨ag 27 [(4,.b9 3 32 M M I),(5,.r5 1)],[.b [.t5 s],.b [.t5 (dH s M)],.b [.t5 (dH s M)],.b [.aF 32 M (eI (cK s))]],Z⟩) (x:=.ret) (v:=[.b9 3 32 M M I,.sM (dH s M)]) ?_ ?_ (.inl rfl) rfl
 ·have e:=ayr M s (cK s) j (cK s j) j
  rw[dm (by omega)] at e
  refine Tr.post (s1:=⟨(crS M s (cK s) (j+1) (cK s (j+1)) (j+1:Int)).t,[.b [.t5 s],.b [.t5 cG],.b [.t5 (iL jl (cK s j))],.b [.aF 32 (j+1) λi=>bF (Nat.ble (i+1) j) (eI (cK s) i) [.t5 (cK s j)]]],Z⟩) (Tr.bg (jI [(12,Z)]) 60 _ 4 (aaH _) _ e (apN M s (cK s) j (cK s j) j) ?_) (bG.tD ⟨PE.refl _,PE.refl _,PE.refl _,PE.aF (qv (cK s) j),trivial⟩)
  rw[g8 k,Me (lP f j),Me (aar j),Me (by omega)]
  rfl
 ·exact Tr.i7 (jI [(12,I)]) (aaH _) (RY M s (cK s) M (cK s M) M) (by rw[gV (aar _)];rfl)
 ·cases M with
  |zero=>exact TrL.i8 (jI [(22,Z)]) (aaH _) (R4 0 s (cK s) 0 (cK s 0)) (by rw[Me f];rfl) Kp
  |succ M=>exact TrL.i8 (jI [(22,I)]) (aaH _) (RZ (M+1:Int) s (cK s) (M+1) (cK s (M+1))) (by rw[show((M+1:Int)==0)=I from ahR.2 (by omega)];rfl) Kp
def OG(b:A s=32)(a:M<=1000):ak Q 71 [.sM s,.t6 M] [] (.bP [.aO Z 32 M (eI (cK s)),.sM (dH s M)]) []:=
 ak.uR (aar _) (λe d x _ _ H c=>fzB H c) (yZ b a)
end
def Io(own x:Int):Bool:=C (own>=fB x)&&C (own<=jB x)
def acC(l:List (Nat×Bool)):cu:=mk [R7] [] (uT l)
def R8(l:List (Nat×Bool)):aq Q (acC l):=au _ aN.nil _ _
def ayw(x y z own n:Int):(aV Q (acC [(16,Z)]) 60 f142 [.agg [.t6 x,.t6 y,.t6 z],.r5 0,.r5 1] [.b [.t6 n],.b [.t6 own]])=E (.bool (C (own<=jB x)),[.b [.t6 n],.b [.t6 own],.b [.t6 x,.t6 y,.t6 z]],aa (aa Z (aa Z (Tr.bf x n))) (C (own>=fB x))):=by kernel_rfl
def ayx(x y z own n:Int):(aV Q (acC [(16,I)]) 60 f142 [.agg [.t6 x,.t6 y,.t6 z],.r5 0,.r5 1] [.b [.t6 n],.b [.t6 own]])=E (.bool I,[.b [.t6 n],.b [.t6 own],.b [.t6 x,.t6 y,.t6 z]],aa (aa Z (aa Z (Tr.bf x n))) !C (own>=fB x)):=by kernel_rfl
def R9{x y z own n:Int}(h:bf x n=Z):ak Q 142 [.agg [.t6 x,.t6 y,.t6 z],.r5 0,.r5 1] [.b [.t6 n],.b [.t6 own]] (.bool (Io own x)) [.b [.t6 n],.b [.t6 own]]:=by
 unfold Io
 by_cases a:own>=fB x
 ·rw[Me a,af0]
  exact qA (R8 [(16,Z)]) 60 func142 2 (by simp) (by rw[ayw];rfl) (by rw[h,Me a];rfl) rfl rfl
 ·rw[aaS a,ahm]
  exact qA (R8 [(16,I)]) 60 func142 2 (by simp) (by rw[ayx];rfl) (by rw[h,aaS a];rfl) rfl rfl
def clE:aK Q:=.rdm 142 _ func142 (by decide) rfl (λvs=>match vs with
 | [_,.aG b _ _,.aG c _ _]=>[b,c]
 |_=>[]) (λus a=>match us,a with
 | [.agg [.int .i64 x,.int .i64 _,.int .i64 _],.aG 0 0 0,.aG 1 0 0],[.b [.int .i64 n],.b [.int .i64 own]]=>E (.bool (Io own x),bf x n)
 |_,_=>Y) λus a v e=>by
 split at e
 ·simp only[Mf,aad] at e;have⟨rfl,d⟩:=e;exact R9 d
 ·cases e
def aiC(l:List (Nat×Bool)):cu:=mk [clE] [] (uT l)
def y4(l:List (Nat×Bool)):aq Q (aiC l):=au _ aN.nil _ _
def aiB:Code:=aI f141
abbrev fnA:SV:=.fn (.func 142) [] [.r5 0,.r5 1]
abbrev Ip(own n:Int):List Blk:=[.b [.t6 n],.b [.t6 own]]
def aiS(M:Nat)(T:Nat->Int×Int×Int)(own n i:Int):St:=⟨ag 19 [(0,.aO I 3 M (gX T)),(1,fnA),(7,.t6 M),(8,.t6 i)],Ip own n,Z⟩
def Sa M T(own n:Int):aD (az [0,1,7,8] 2 ((bh Q (aiC []) 60 2 2 (aH aiB) ⟨aU f141.ntmps [.aO I 3 M (gX T),fnA],Ip own n,Z⟩).x3))=(E (.normal,(aiS M T own n 0).t,Ip own n),(Z)):=by kernel_rfl
def Kq M T(own n i:Int):aD (az [0,1,7,8] 2 (exec Q (aiC [(9,Z),(16,I)]) 60 2 (aj (aj (aJ 2 aiB))) (aiS M T own n i)))=(E (.normal,(aiS M T own n (i64.wrap (i+1))).t,Ip own n),(aa (aa (aa (aa (aa Z (C (i<(M:Int)))) (bC i M)) (Z&&(C (O i<M)&&Z))) (aa Z (Tr.bf (T (O i)).fst n))) !Io own (T (O i)).fst)):=by kernel_rfl
def apW M T own n i:=bu (Kq M T own n i)
def ahH M T own n i:=bz (Kq M T own n i)
def EI M T(own n i:Int):aD (az [4] 2 (exec Q (aiC [(9,Z),(16,Z)]) 60 2 (aj (aj (aJ 2 aiB))) (aiS M T own n i)))=(E (.ret,ag 19 [(4,.t6 i)],Ip own n),(aa (aa (aa (aa (aa Z (C (i<(M:Int)))) (bC i M)) (Z&&(C (O i<M)&&Z))) (aa Z (Tr.bf (T (O i)).fst n))) (Io own (T (O i)).fst))):=by kernel_rfl
def EJ M T(own n i:Int):aD (az [] 2 (exec Q (aiC [(9,I)]) 60 2 (aj (aj (aJ 2 aiB))) (aiS M T own n i)))=(E (.exit 0,ag 19 [],Ip own n),(aa Z !C (i<(M:Int)))):=by kernel_rfl
def OH(own:Int)(M:Nat)(T:Nat->Int×Int×Int):Int:=cR (λi=>!Io own (T i).1) M (λi=>(i:Int)) (-1)
def EK(g:Nat->List SV):Nat->Int×Int×Int:=λi=>match g i with
 | [.int _ a,.int _ b,.int _ c]=>(a,b,c)
 |_=>(0,0,0)
def CQ(M:Nat)(g:Nat->List SV):Bool:=(t8 M).all λi=>match g i with
 | [.int .i64 _,.int .i64 _,.int .i64 _]=>Z
 |_=>I
def tF(M:Nat)(T:Nat->Int×Int×Int)(n:Int):Bool:=(t8 M).all λi=>bf (T i).1 n
def VE.tu{f}{M:Nat}{g}(h:CQ M g=Z):VE (.aO f 3 M g) (.aO f 3 M (gX (EK g))):=VE.Sb λi d=>by
 have:=aaB.1 h i (aaI.2 d);unfold gX EK;split at this
 ·rename_i a b c e;rw[e]
 ·cases this
section
variable {M:Nat} {T:Nat->Int×Int×Int} {own n:Int}
def apX(hM:M<=1000)(c:tF M T n=Z):ak Q 141 [.aO I 3 M (gX T),fnA] (Ip own n) (.t6 (OH own M T)) (Ip own n):=by
 have c:=λi a=>aaB.1 c i (aaI.2 a)
 have b:=ak.qD (h:=Ip own n) (h':=Ip own n) func141 rfl 2 0 (λj:Nat=>aiS M T own n (j:Int)) (λi=>!Io own (T i).1) M
  (λx s' g=>TrL.i6 (s1:=aiS M T own n (0:Int)) (y4 []) (aar 2) (Sa M T own n) rfl (by decide) rfl g) (by decide) rfl
  (λi a hb _=>?_) (λi=>⟨ag 19 [(4,.t6 (i:Int))],Ip own n,Z⟩) (λi=>[.t6 (i:Int)]) (λi a hb _=>⟨?_,rfl,rfl⟩) (sE:=⟨ag 19 [],Ip own n,Z⟩) (A4:=⟨ag 19 [(4,.t6 (-1))],Ip own n,Z⟩) (vE:=[.t6 (-1)]) (xE:=.ret) (λ_=>?_) (λ_=>⟨?_,.inl rfl,rfl,rfl⟩)
 ·rw[de (g:=SV.int .i64) (vF:=λi:Nat=>(i:Int)) (vE:=-1)] at b
  exact b
 ·have e:=apW M T own n i
  rw[dm (by omega)] at e
  exact Tr.bg (y4 [(9,Z),(16,I)]) 60 _ 2 (aar 2) (s':=aiS M T own n ((i+1:Nat):Int)) _ e (ahH M T own n i) (by
   rw[g8 a,bW a,aaq,Me a,c i a,hb];rfl)
 ·have f:Io own (T i).1=Z:=by simpa using hb
  exact Tr.i7 (s':=⟨ag 19 [(4,.t6 (i:Int))],Ip own n,Z⟩) (y4 [(9,Z),(16,Z)]) (aar 2) (EI M T own n i) (by
   rw[g8 a,bW a,aaq,Me a,c i a,f];rfl)
 ·exact Tr.i7 (s':=⟨ag 19 [],Ip own n,Z⟩) (y4 [(9,I)]) (aar 2) (EJ M T own n M) (by rw[gV (aar _)];rfl)
 ·exact TrL.rest (y4 []) 60 rfl rfl
end
def ayz:aK Q:=.rdm 141 _ func141 (by decide) rfl (λvs=>match vs with
 | [_,.fn _ _ [.aG b _ _,.aG c _ _]]=>[b,c]
 |_=>[]) (λus d=>match us,d with
 | [.aO I 3 M g,.fn (.func 142) [] [.aG 0 0 0,.aG 1 0 0]],[.b [.int .i64 n],.b [.int .i64 own]]=>E (.t6 (OH own M (EK g)),C (M<=1000)&&CQ M g&&tF M (EK g) n)
 |_,_=>Y) λus d v e=>by
 split at e
 ·simp only[Mf,aad,No,aac] at e;have⟨rfl,⟨i,h⟩,f⟩:=e;exact ak.conv (apX i f) ⟨VE.tu h,VE.refl _,trivial⟩ ⟨PE.refl _,PE.refl _,trivial⟩ (VE.refl _) ⟨PE.refl _,PE.refl _,trivial⟩
 ·cases e
def abC:cu:=mk [ayz] []
def tG:aq Q abC:=au _ aN.nil _ _
def ahK(M:Nat)(T:Nat->Int×Int×Int)(own n:Int):(aV Q abC 60 f90 [.aO I 3 M (gX T),.t6 own,.t6 n] []).v3=E (.t6 (OH own M (EK λi=>ah (gX T i))),aa Z (aa Z ((C (M<=1000)&&CQ M λi=>ah (gX T i))&&tF M (EK λi=>ah (gX T i)) n))):=by kernel_rfl
def lwC(l:List (Nat×Bool)):cu:=mk [Kr,uV] [] (uT l)
def y5(l:List (Nat×Bool)):aq Q (lwC l):=au _ aN.nil _ _
def lwB:Code:=aI f100
def lwS(N:Nat)(t:Nat->aE)(a:pD)(own i:Int):St:=⟨ag 25 [(0,.p4 I N t),(1,.ro I .i64 a),(2,.t6 own),(7,.t6 i)],[],Z⟩
def Sd(N:Nat) t(a:pD)(own:Int):aD (az [0,1,2,7] 0 ((bh Q (lwC []) 60 0 2 (aH lwB) ⟨aU f100.ntmps [.p4 I N t,.ro I .i64 a,.t6 own],[],Z⟩).x3))=(E (.normal,(lwS N t a own 0).t,[]),(Z)):=by kernel_rfl
def Ks(N:Nat) t(a:pD)(own i:Int):aD (az [0,1,2,7] 0 (exec Q (lwC [(11,Z),(23,I)]) 60 0 (aj (aj (aJ 2 lwB))) (lwS N t a own i)))=(E (.normal,(lwS N t a own (i64.wrap (i+1))).t,[]),(aa (aa (aa (aa (aa (aa Z (C (i<(A a:Int)))) (bC i (A a))) (C (O i<A a))) (aa Z (Z&&C ((N:Int)<72)))) (aa Z (C (0<=aY (N:Int))&&Tr.bf (X a (O i) 0) (aY (N:Int))&&Tr.bf (i64.wrap (2*own)) (aY (N:Int))))) !iR (X a (O i) 0) (i64.wrap (2*own)) (O (aY (N:Int))))):=by kernel_rfl
def ap0 N t ws own i:=bu (Ks N t ws own i)
def ahL N t ws own i:=bz (Ks N t ws own i)
def EL(N:Nat) t(a:pD)(own i:Int):aD (az [6] 0 (exec Q (lwC [(11,Z),(23,Z)]) 60 0 (aj (aj (aJ 2 lwB))) (lwS N t a own i)))=(E (.ret,ag 25 [(6,.t6 i)],[]),(aa (aa (aa (aa (aa (aa Z (C (i<(A a:Int)))) (bC i (A a))) (C (O i<A a))) (aa Z (Z&&C ((N:Int)<72)))) (aa Z (C (0<=aY (N:Int))&&Tr.bf (X a (O i) 0) (aY (N:Int))&&Tr.bf (i64.wrap (2*own)) (aY (N:Int))))) (iR (X a (O i) 0) (i64.wrap (2*own)) (O (aY (N:Int)))))):=by kernel_rfl
def EM(N:Nat) t(a:pD)(own i:Int):aD (az [] 0 (exec Q (lwC [(11,I)]) 60 0 (aj (aj (aJ 2 lwB))) (lwS N t a own i)))=(E (.exit 0,ag 25 [],[]),(aa Z !C (i<(A a:Int)))):=by kernel_rfl
def ahO:aK Q:=.val 67 _ func67 (by decide) rfl Z 0 (λvs=>match vs with
 | [.agg [.af .u8 32 s],.int .i64 M]=>E (.bP [.aO Z 32 (O M) (eI (cK s)),.sM (dH s (O M))],[],C (A s=32)&&C (0<=M)&&C (M<=1000))
 |_=>Y) λvs v new e=>by
 split at e
 ·rename_i s M
  simp only[Mf,aad,No,aac] at e
  have⟨rfl,rfl,⟨b,a⟩,c⟩:=e
  have k:=R6 (M:=O M) b (by omega)
  rwa [Int.toNat_of_nonneg a] at k
 ·cases e
def CR(l:List (Nat×Bool)):cu:=mk [ahO,apG] [] (uT l)
def jJ(l:List (Nat×Bool)):aq Q (CR l):=au _ aN.nil _ _
def OI:Code:=aI f93
def flR:Code:=br (br (br OI))
def QS:Code:=aj (aj (br (cq flR)))
def QT:Code:=aj (cq (br (br QS)))
def flK:Code:=cq (br (br QT))
abbrev eV(m:Nat):SV:=.nl (.map (E m))
def yw(s cm:pD):List Blk:=[.b [.t5 s],.b [.t5 cG],.b [.t5 cm]]
def ZF(N:Nat)(t:Nat->aE)(M:Nat)(T:Nat->Int×Int×Int)(c:Nat->pD)(x:List (Nat×SV)):List (Option SV):=ag 54 ([(0,.p4 I N t),(1,.aO I 3 M (gX T)),(7,.r5 1),(9,.aO Z 32 M (eI c)),(10,.r5 2)]++x)
def v7(N:Nat)(t:Nat->aE)(M:Nat)(T:Nat->Int×Int×Int)(c:Nat->pD)(s cm:pD)(m:Nat)(i:Int)(x:List (Nat×SV))(b:List Blk):St:=⟨ag 54 ([(0,.p4 I N t),(7,.r5 1),(9,.aO Z 32 M (eI c)),(10,.r5 2),(11,eV m),(23,.aO I 3 M (gX T)),(24,.t6 M),(25,.t6 i)]++x),yw s cm++b,Z⟩
def flP(T:Nat->Int×Int×Int)(i:Nat)(k:pD):List Blk:=[.b [.t6 (T i).1,.t6 (T i).2.1,.t6 (T i).2.2],.b [.t5 (iL dc k),.t5 (Il k)]]
def Se(N:Nat)(t:Nat->aE)(M:Nat)(T:Nat->Int×Int×Int)(s:pD):aD (az [0,1,5,7] 2 (exec Q (CR []) 60 0 (cq OI) ⟨aU f93.ntmps [.p4 I N t,.aO I 3 M (gX T),.sM s],[],Z⟩))=(E (.normal,ag 54 [(0,.p4 I N t),(1,.aO I 3 M (gX T)),(5,.r5 0),(7,.r5 1)],[.b [.t5 s],.b [.t5 cG]]),(Z)):=by kernel_rfl
def Sf(N:Nat)(t:Nat->aE)(M:Nat)(T:Nat->Int×Int×Int)(s:pD):aD (az [0,1,7,9,10] 3 (exec Q (CR []) 60 2 (cq (br OI)) ⟨ag 54 [(0,.p4 I N t),(1,.aO I 3 M (gX T)),(5,.r5 0),(7,.r5 1)],[.b [.t5 s],.b [.t5 cG]],Z⟩))=(E (.normal,ZF N t (O (M:Int)) T (cK s) [],yw s (dH s (O (M:Int)))),(aa Z (aa Z (C (A s=32)&&Z&&C ((M:Int)<=1000))))):=by kernel_rfl
def ayD N t M T s:=bu (Sf N t M T s)
def ap2 N t M T s:=bz (Sf N t M T s)
def Kt(N:Nat)(t:Nat->aE)(M:Nat)(T:Nat->Int×Int×Int)(c:Nat->pD)(s cm:pD)(m:Nat):aD (az [0,1,7,9,10,11] 3 ((cg Q (c7 Q (CR []) λk=>Sy.exec Q (CR []) 60 k) (CR []).sym (CR []).eZ 3 (bO (cq (br (br OI)))) [1] ⟨bK (ZF N t M T c []) (E 22) (eV m),yw s cm,Z⟩).x3))=(E (.normal,ZF N t M T c [(11,eV m)],yw s cm),(Z)):=by kernel_rfl
def Sg(N:Nat)(t:Nat->aE)(M:Nat)(T:Nat->Int×Int×Int)(c:Nat->pD)(s cm:pD)(m:Nat):aD (az [0,7,9,10,11,23,24,25] 3 (exec Q (CR []) 60 3 (cq (cq flR)) ⟨ZF N t M T c [(11,eV m)],yw s cm,Z⟩))=(E (.normal,(v7 N t M T c s cm m 0 [] []).t,yw s cm),(Z)):=by kernel_rfl
def Si(N:Nat)(t:Nat->aE)(M:Nat)(T:Nat->Int×Int×Int)(c:Nat->pD)(s cm:pD)(m:Nat)(i:Int):aD (az [7,10,11] 3 (exec Q (CR [(26,I)]) 60 3 QS (v7 N t M T c s cm m i [] [])))=(E (.exit 0,ag 54 [(7,.r5 1),(10,.r5 2),(11,eV m)],yw s cm),(aa Z !C (i<(M:Int)))):=by kernel_rfl
def Sj(s cm:pD)(m:Nat):aD (az [6,7,8] 3 (exec Q (CR []) 60 3 (br flR) ⟨ag 54 [(7,.r5 1),(10,.r5 2),(11,eV m)],yw s cm,Z⟩))=(E (.ret,ag 54 [(6,eV m),(7,.r5 1),(8,.nl .nilIface)],[.b [.t5 s],.b [.t5 cm],.b [.t5 cm]]),(Z)):=by kernel_rfl
def Sk(N:Nat)(t:Nat->aE)(M:Nat)(T:Nat->Int×Int×Int)(c:Nat->pD)(s cm:pD)(m:Nat)(i:Int):aD (az [0,7,9,10,11,23,24,25] 3 ((bh Q (CR [(26,Z)]) 60 3 2 [cq QS,cq (br QS)] (v7 N t M T c s cm m i [] [])).x3))=(E (.normal,(v7 N t M T c s cm m i [] []).t,yw s cm),(aa Z (C (i<(M:Int))))):=by kernel_rfl
def Sl(N:Nat)(t:Nat->aE)(M:Nat)(T:Nat->Int×Int×Int)(c:Nat->pD)(s cm:pD)(m:Nat)(i:Int):aD (az [0,7,9,10,11,13,14,23,24,25] 5 ((bh Q (CR []) 60 3 2 [cq QT,cq (br QT)] (v7 N t M T c s cm m i [] [])).x3))=(E (.normal,(v7 N t M T c s cm m i [(13,.r5 3),(14,.r5 4)] []).t,yw s cm++flP T (O i) (c (O i))),(aa (aa (aa (aa (aa Z (bC i M)) (Z&&(C (O i<M)&&Z))) (bC i M)) (Z&&(C (O i<M)&&Z))) (aa Z (C (A (c i.toNat)=32))))):=by kernel_rfl
def ap8 N t M T c s cm m i:=bu (Sl N t M T c s cm m i)
def afw N t M T c s cm m i:=bz (Sl N t M T c s cm m i)
def Sm(N:Nat)(t:Nat->aE)(M:Nat)(T:Nat->Int×Int×Int)(c:Nat->pD)(s cm k:pD)(m j:Nat)(i:Int):aD (az [0,7,9,10,11,13,14,23,24,25] 5 (exec Q (CR [(43,I)]) 60 5 flK (v7 N t M T c s cm m i [(13,.r5 3),(14,.r5 4)] (flP T j k))))=(E (.normal,(v7 N t M T c s cm m i [(13,.r5 3),(14,.r5 4)] []).t,yw s cm++flP T j k),(aa (aa (aa (aa Z (bC (T j).fst N)) (Z&&(C ((T j).fst.toNat<N)&&Z))) (aa (C (A (Il k)=32)) (C ((t (T j).fst.toNat).key.length=32)))) !!C (Il k=(t (T j).fst.toNat).key))):=by kernel_rfl
def So(N:Nat)(t:Nat->aE)(M:Nat)(T:Nat->Int×Int×Int)(c:Nat->pD)(s cm k:pD)(m j:Nat)(i:Int):aD (az [6,7,8] 3 (exec Q (CR [(43,Z)]) 60 5 flK (v7 N t M T c s cm m i [(13,.r5 3),(14,.r5 4)] (flP T j k))))=(E (.ret,ag 54 [(6,.nl (.map Y)),(7,.r5 1),(8,.iface 112 (.t6 2))],yw s cm),(aa (aa (aa (aa Z (bC (T j).fst N)) (Z&&(C ((T j).fst.toNat<N)&&Z))) (aa (C (A (Il k)=32)) (C ((t (T j).fst.toNat).key.length=32)))) !C (Il k=(t (T j).fst.toNat).key))):=by kernel_rfl
def Sp(N:Nat)(t:Nat->aE)(M:Nat)(T:Nat->Int×Int×Int)(c:Nat->pD)(s cm k:pD)(m j:Nat)(i:Int):aD (az [0,7,9,10,11,23,24,25,46,48,50] 3 ((cg Q (c7 Q (CR []) λk=>Sy.exec Q (CR []) 60 k) (CR []).sym (CR []).eZ 5 (bO (br (br (br QT)))) [0,1,2,3,4] (v7 N t M T c s cm m i [(13,.r5 3),(14,.r5 4)] (flP T j k))).x3))=(E (.normal,(v7 N t M T c s cm m i [(46,eV m),(48,.t6 (T j).1),(50,.sM (iL dc k))] []).t,yw s cm),(Z)):=by kernel_rfl
def Sq(N:Nat)(t:Nat->aE)(M:Nat)(T:Nat->Int×Int×Int)(c:Nat->pD)(s cm:pD)(m:Nat)(i:Int):aD (az [0,7,9,10,11,23,24,25] 3 (exec Q (CR []) 60 3 (br (br (br QS))) (v7 N t M T c s cm m i [] [])))=(E (.normal,(v7 N t M T c s cm m (i64.wrap (i+1)) [] []).t,yw s cm),(Z)):=by kernel_rfl
def ayK N t M T c s cm m i:=bu (Sq N t M T c s cm m i)
def aqc N t M T c s cm m i:=bz (Sq N t M T c s cm m i)
section
variable {M:Nat} {T:Nat->Int×Int×Int} {own n:Int}
def Sr(a:M<=1000)(d:tF M T n=Z):ak Q 90 [.aO I 3 M (gX T),.t6 own,.t6 n] [] (.t6 (OH own M T)) []:=
 aP tG 60 func90 (ahK M T own n) (by have c:(EK λi=>ah (gX T i))=T:=rfl;have b:(CQ M λi=>ah (gX T i))=Z:=aaB.2 λ_ _=>rfl;rw[c,b,d,Me a];rfl) rfl
end
def ahQ:(bn.all λn=>(t8 (2*n-1)).all λx=>(t8 n).all λo=>iR (x:Int) (2*(o:Int)) n==Io (o:Int) (x:Int))=Z:=by decide+kernel
def afx{n o x}(b:n∈bn)(d:o<n)(c:Tr.bf x n=Z):iR x (2*(o:Int)) n=Io (o:Int) x:=by
 obtain⟨m,f,y,e,rfl,a⟩:=fW c;obtain rfl:n=m:=by omega
 exact eq_of_beq (aaB.1 (aaB.1 (aaB.1 ahQ n b) y (aaI.2 a)) o (aaI.2 d))
section
variable {N n o:Nat} {t:Nat->aE} {ws:pD}
def lwV(own:Int)(ws:pD):Int:=cR (λi=>!Io own (X ws i 0)) (A ws) (λi=>(i:Int)) (-1)
def OJ(k:n∈bn)(hv:aY N=(n:Int))(hN:N<72)(q:o<n)(hl:A ws<=1000)(l:∀i,i<A ws->Tr.bf (X ws i 0) n=Z):ak Q 100 [.p4 I N t,.ro I .i64 ws,.t6 o] [] (.t6 (lwV o ws)) []:=by
 have hs:=cn k
 have f:Tr.bf (2*(o:Int)) n=Z:=by
  unfold Tr.bf
  refine afJ.2 ⟨n,k,?_⟩
  rw[Me (rfl:(n:Int)=n),Me (show(0:Int)<=2*o by omega),Me (by omega)];rfl
 have c:i64.wrap (2*(o:Int))=2*(o:Int):=dU (by omega) (by omega)
 have d:=ak.qD (h:=[]) (h':=[]) func100 rfl 2 0 (λj:Nat=>lwS N t ws o (j:Int)) (λi=>!Io o (X ws i 0)) (A ws)
  (λx s' g=>TrL.i6 (s1:=lwS N t ws o (0:Int)) (y5 []) (aar 0) (Sd ..) rfl (by decide) rfl g) (by decide) rfl
  (λi a p _=>?_) (λi=>⟨ag 25 [(6,.t6 (i:Int))],[],Z⟩) (λi=>[.t6 (i:Int)]) (λi a p _=>⟨?_,rfl,rfl⟩) (sE:=⟨ag 25 [],[],Z⟩) (A4:=⟨ag 25 [(6,.t6 (-1))],[],Z⟩) (vE:=[.t6 (-1)]) (xE:=.ret) (λ_=>?_) (λ_=>⟨?_,.inl rfl,rfl,rfl⟩)
 ·rw[de (g:=SV.int .i64) (vF:=λi:Nat=>(i:Int)) (vE:=-1)] at d
  exact d
 ·have e:=ap0 N t ws o i
  rw[dm (by omega)] at e
  have b:Io o (X ws i 0)=I:=by simpa using p
  refine Tr.bg (y5 [(11,Z),(23,I)]) 60 _ 0 (aar 0) (s':=lwS N t ws o ((i+1:Nat):Int)) _ e (ahL ..) ?_
  rw[c,hv,g8 a,bW a,aaq,aaq,Me a,l i a,f,afx k q (l i a),b,Me (show(N:Int)<72 by omega),Me (show(0:Int)<=n by omega)];rfl
 ·have b:Io o (X ws i 0)=Z:=by simpa using p
  refine Tr.i7 (s':=⟨ag 25 [(6,.t6 (i:Int))],[],Z⟩) (y5 [(11,Z),(23,Z)]) (aar 0) (EL ..) ?_
  rw[c,hv,g8 a,bW a,aaq,aaq,Me a,l i a,f,afx k q (l i a),b,Me (show(N:Int)<72 by omega),Me (show(0:Int)<=n by omega)];rfl
 ·exact Tr.i7 (s':=⟨ag 25 [],[],Z⟩) (y5 [(11,I)]) (aar 0) (EM ..) (by rw[gV (aar _)];rfl)
 ·exact TrL.rest (y5 []) 60 rfl rfl
end
def ahS:OI=.seq (cq OI) (.seq (cq (br OI)) (.seq (.region 2 (bO (cq (br (br OI)))) I) flR)):=by kernel_rfl
def Ss:flR=.seq (.seq (cq (cq flR)) (.block 0 (.loop QS))) (br flR):=by kernel_rfl
def Su:QS=[cq QS,cq (br QS)].foldr .seq (.seq (.block 1 QT) (br (br (br QS)))):=by kernel_rfl
def Sv:QT=[cq QT,cq (br QT)].foldr .seq (.seq flK (.region 9 (bO (br (br (br QT)))) I)):=by kernel_rfl
def gF(f:Nat->Int×pD):Nat->List (Int×Value)
 |0=>[]
 |i+1=>mW (gF f i) (f i).1 (jb .u8 (f i).2)
def EN f:∀i,nJ (gF f i)
 |0=>List.nodup_nil
 |i+1=>(EN f i).set _ _
def OM{l}(h:RM l) k{d}(b:A d=32):RM (mW l k (jb .u8 d)):=by
 induction l with
 |nil=>intro p a;rw[mW,List.mem_singleton] at a;subst a;exact⟨d,b,rfl⟩
 |cons q l c=>
  unfold mW
  cases e:(k==q.1) with
  |true=>
   intro p a
   rcases af7.1 a with rfl|a
   ·exact⟨d,b,rfl⟩
   ·exact h p (List.mem_cons_of_mem _ a)
  |false=>
   intro p a
   rcases af7.1 a with rfl|a
   ·exact h p (by simp)
   ·exact c (λp a=>h p (List.mem_cons_of_mem _ a)) p a
def EO{f}(a:∀k,(f k).2.length=32):∀i,RM (gF f i)
 |0=>λp b=>by cases b
 |i+1=>OM (EO a i) _ (a i)
def H9(T:Nat->Int×Int×Int)(s:pD):Nat->Int×pD:=λk=>((T k).1,iL dc (cK s k))
def ZG(t:Nat->aE)(T:Nat->Int×Int×Int)(s:pD)(k:Nat):Bool:=C (Il (cK s k)=(t (T k).1.toNat).key)
def Ku(s:pD):A (Il s)=32:=uW _ _
section
variable {N M m i:Nat} {t:Nat->aE} {T:Nat->Int×Int×Int} {s:pD}
def inT(N M:Nat)(T:Nat->Int×Int×Int):Bool:=(t8 M).all λk=>bC (T k).1 N
def Sw(h:inT N M T=Z)(hi:i<M):bC (T i).1 N=Z/\(T i).1.toNat<N:=by have:=aaB.1 h i (aaI.2 hi);refine⟨this,?_⟩;simp only[bC,No,aac] at this;omega
def Kv(hT:eo N t)(hs:A s=32)(hM:M<=1000)(hN:inT N M T=Z) cm(hi:i<M)(d:ZG t T s i=Z):
  TrX Q Y 0 QS (v7 N t M T (cK s) s cm m (i:Int) [] []) (bA Z m (gF (H9 T s) i)) .normal (v7 N t M T (cK s) s cm m ((i+1:Nat):Int) [] []) (bA Z m (gF (H9 T s) (i+1))):=by
 have K:=bA.bJ Z m
 have F:=bA.cj Z m
 have⟨h1,h2⟩:=Sw hN hi
 have h3:=hT.key _ h2
 have c:=ayK N t M T (cK s) s cm m i
 rw[dm (by omega)] at c
 have h5:=ap8 N t M T (cK s) s cm m i
 have a:=afw N t M T (cK s) s cm m i
 rw[aaq] at h5 a
 rw[Su]
 refine TrX.i5 (jJ [(26,Z)]) (K _) (F _) (aaH _) (Sk ..) (by rw[g8 hi];rfl) ?_
 refine TrX.seq (s1:=v7 N t M T (cK s) s cm m (i:Int) [] []) (TrX.cz ?_ (by simp)) (TrX.bg (jJ []) (K _) (F _) 60 _ 3 (aaH _) _ c (aqc N t M T (cK s) s cm m i) rfl)
 rw[Sv]
 refine TrX.jh (jJ []) (K _) (F _) 60 _ 5 (aaH _) _ (s1:=v7 N t M T (cK s) s cm m (i:Int) [(13,.r5 3),(14,.r5 4)] (flP T i (cK s i))) h5 a (by rw[bW hi,Me hi,Me (lP hs i)];rfl) ?_
 refine TrX.seq (s1:=v7 N t M T (cK s) s cm m (i:Int) [(13,.r5 3),(14,.r5 4)] (flP T i (cK s i))) (H1:=bA Z m (gF (H9 T s) i)) ?_ ?_
 ·refine TrX.i4 (jJ [(43,I)]) (K _) (F _) (aaH _) (Sm N t M T (cK s) s cm (cK s i) m i i) ?_
  unfold ZG at d
  rw[h1,Me h2,d,Me (Ku _),Me h3];rfl
 ·have hW:OX Q Y 0 (bO (br (br (br QT)))) (t8 (bO (br (br (br QT)))).size) (v7 N t M T (cK s) s cm m (i:Int) [(13,.r5 3),(14,.r5 4)] (flP T i (cK s i))) (bA Z m (gF (H9 T s) i)) (v7 N t M T (cK s) s cm m (i:Int) [(46,eV m),(48,.t6 (T i).1),(50,.sM (iL dc (cK s i)))] []) (bA Z m (gF (H9 T s) (i+1))):=by
   rw[show t8 (bO (br (br (br QT)))).size=[0,1,2,3,4]++[5] by kernel_rfl]
   refine OX.append (OX.i3 (s':=v7 N t M T (cK s) s cm m (i:Int) [(46,eV m),(48,.t6 (T i).1),(50,.sM (iL dc (cK s i)))] []) (jJ []) (K _) (F _) (aaH _) (Sp N t M T (cK s) s cm (cK s i) m i i) rfl) ?_
   exact OX.RL (t:=97) (kt:=3) (et:=25) (xm:=.tmp 46) (xk:=.tmp 48) (xv:=.tmp 50) rfl rfl rfl rfl rfl rfl rfl (iW _ _)
  exact TrX.QO (F _) (TrX.region 9 hW) (bG.cut (live:=[0,7,9,10,11,23,24,25]) (n:=3) (aaH _) rfl)
def ahT(g:eo N t)(hs:A s=32)(hN:inT N M T=Z) cm(hi:i<M)(c:ZG t T s i=I):
  TrX Q Y 0 QS (v7 N t M T (cK s) s cm m (i:Int) [] []) (bA Z m (gF (H9 T s) i)) .ret ⟨ag 54 [(6,.nl (.map Y)),(7,.r5 1),(8,.iface 112 (.t6 2))],yw s cm,Z⟩ TH:=by have K:=bA.bJ Z m;have F:=bA.cj Z m;have⟨e,b⟩:=Sw hN hi;have f:=g.key _ b;have d:=ap8 N t M T (cK s) s cm m i;have a:=afw N t M T (cK s) s cm m i;rw[aaq] at d a;rw[Su];refine TrX.i5 (jJ [(26,Z)]) (K _) (F _) (aaH _) (Sk ..) (by rw[g8 hi];rfl) ?_;refine TrX.jm (TrX.cz ?_ (by simp)) (by simp);rw[Sv];refine TrX.jh (jJ []) (K _) (F _) 60 _ 5 (aaH _) _ (s1:=v7 N t M T (cK s) s cm m (i:Int) [(13,.r5 3),(14,.r5 4)] (flP T i (cK s i))) d a (by rw[bW hi,Me hi,Me (lP hs i)];rfl) ?_;refine TrX.jm ?_ (by simp);refine TrX.Bb (TrX.i4 (jJ [(43,Z)]) (K _) (F _) (aaH _) (So ..) ?_) λ_ _ _ _=>trivial;unfold ZG at c;rw[e,Me b,c,Me (Ku _),Me f];rfl
def Kw(f:A s=32)(hM:M<=1000){x S G}(g:∀m,TrX prog Y 0 flR ⟨ZF N t M T (cK s) [(11,eV m)],yw s (dH s M),Z⟩ (bA Z m []) x (S m) (G m)):
  fu prog Y 0 OI ⟨aU f93.ntmps [.p4 I N t,.aO I 3 M (gX T),.sM s],[],Z⟩ TH x S G:=by have a:=ayD N t M T s;rw[aaq] at a;rw[ahS];refine fu.seq (TrX.i4 (s':=⟨ag 54 [(0,.p4 I N t),(1,.aO I 3 M (gX T)),(5,.r5 0),(7,.r5 1)],[.b [.t5 s],.b [.t5 cG]],Z⟩) (jJ []) TH.bJ TH.cj (aaH _) (Se ..) rfl) ?_;refine fu.seq (TrX.bg (jJ []) TH.bJ TH.cj 60 _ 3 (aaH _) (s':=⟨ZF N t M T (cK s) [],yw s (dH s M),Z⟩) _ a (ap2 ..) (by rw[Me f,Me (show(M:Int)<=1000 by omega)];rfl)) ?_;refine fu.EC (nX.CP 2 ?_) g;rw[show t8 (bO (cq (br (br OI)))).size=[0]++[1] by kernel_rfl];refine nX.then (nX.afo (dst:=E 22) (t:=97) TH.bJ TH.cj rfl rfl) λm=>?_;have K:=(bA.bJ Z m []);have F:=(bA.cj Z m []);have e:OX prog Y 0 (bO (cq (br (br OI)))) [1] ⟨bK (ZF N t M T (cK s) []) (E 22) (eV m),yw s (dH s M),Z⟩ (bA Z m []) ⟨ZF N t M T (cK s) [(11,eV m)],yw s (dH s M),Z⟩ (bA Z m []):=OX.i3 (jJ []) K F (aaH _) (Kt ..) rfl;exact λB e1 w c d Q nn rest hB hl R a hQ=>e B e1 w c d Q nn rest hB hl R a.1 hQ
def Kx m:TrX Q Y 0 (cq (cq flR)) ⟨ZF N t M T (cK s) [(11,eV m)],yw s (dH s M),Z⟩ (bA Z m []) .normal (v7 N t M T (cK s) s (dH s M) m ((0:Nat):Int) [] []) (bA Z m (gF (H9 T s) 0)):=
 TrX.i4 (jJ []) (bA.bJ Z m []) (bA.cj Z m []) (aaH _) (Sg ..) rfl
def ON(k:eo N t)(f:A s=32)(d:M<=1000)(hN:inT N M T=Z)(l:(t8 M).all (ZG t T s)=Z):
  eL Q 93 [.p4 I N t,.aO I 3 M (gX T),.sM s] [] (λ_=>True) (λm=>.bP [eV m,.sM (dH s M),.nl .nilIface]) (λm=>bA Z m (gF (H9 T s) M)):=by
 have h:=λi hi=>aaB.1 l i (aaI.2 hi)
 have a:=Kw f d (x:=.ret) (S:=λm=>⟨ag 54 [(6,eV m),(7,.r5 1),(8,.nl .nilIface)],[.b [.t5 s],.b [.t5 (dH s M)],.b [.t5 (dH s M)]],Z⟩) (G:=λm=>bA Z m (gF (H9 T s) M)) λm=>by
  have K:=bA.bJ Z m
  have F:=bA.cj Z m
  rw[Ss]
  refine TrX.seq (TrX.seq (Kx m) (TrX.block (jE.loop (jE.for (by simp) (λj:Nat=>v7 N t M T (cK s) s (dH s M) m (j:Int) [] []) (λj=>bA Z m (gF (H9 T s) j)) M (λj g=>Kv k f d hN _ g (h j g)) (TrX.i4 (s':=⟨ag 54 [(7,.r5 1),(10,.r5 2),(11,eV m)],yw s (dH s M),Z⟩) (jJ [(26,I)]) (K _) (F _) (aaH _) (Si ..) (by rw[gV (aar _)];rfl)))))) ?_
  exact TrX.i4 (jJ []) (K _) (F _) (aaH _) (Sj ..) rfl
 exact eL.of (S:=λm=>⟨ag 54 [(6,eV m),(7,.r5 1),(8,.nl .nilIface)],[.b [.t5 s],.b [.t5 (dH s M)],.b [.t5 (dH s M)]],Z⟩) (vs:=λm=>[eV m,.sM (dH s M),.nl .nilIface]) func93 (c:=OI) rfl (.inl rfl) (λm=>bA.low _ _ _) (λm=>bA.CL _ _ _) a (λ_=>rfl) (λ_=>by kernel_rfl)
def Iq(f:eo N t)(d:A s=32)(k:M<=1000)(hN:inT N M T=Z)(hq:(t8 M).all (ZG t T s)=I):
  ak Q 93 [.p4 I N t,.aO I 3 M (gX T),.sM s] [] (.bP [.nl (.map Y),.sM cG,.iface 112 (.t6 2)]) []:=by
 cases g:cV (ZG t T s) M with
 |none=>
  have:=aaB.2 λi hi=>dz g i (aaI.1 hi)
  rw[hq] at this;cases this
 |some i=>
  have⟨h1,h2,h3⟩:=dr g
  have b:=Kw d k λm=>by
   rw[Ss]
   exact TrX.jm (TrX.seq (Kx m) (TrX.cz (jE.loop (jE.for (by simp) (λj:Nat=>v7 N t M T (cK s) s (dH s M) m (j:Int) [] []) (λj=>bA Z m (gF (H9 T s) j)) i (λj hj=>Kv f d k hN _ (by omega) (h3 j hj)) (ahT f d hN _ h1 h2))) (by simp))) (by simp)
  have kk:=eL.of (vs:=λ_=>[.nl (.map Y),.sM cG,.iface 112 (.t6 2)]) func93 (c:=OI) (p:=λ_=>True) rfl (.inl rfl) (λ_=>TH.low) (λ_=>TH.CL) b (λ_=>rfl) (λ_=>by kernel_rfl)
  intro B e w args hB hl R
  refine(kk B e w args hB hl R trivial).mono ?_
  rintro en w' ⟨v',_,rfl,e',hv,S,_⟩
  exact⟨v',rfl,{e' with m:=e.m},rfl,VR.mono (e:=e') (e':={e' with m:=e.m}) ⟨λ_ _ h=>h,λ_ _ h=>h,aar _⟩ hv,S⟩
end
def ahU:aK Q:=.val 90 _ func90 (by decide) rfl Z 0 (λvs=>match vs with
 | [.aO I 3 M g,.int .i64 own,.int .i64 n]=>E (.t6 (OH own M (EK g)),[],C (M<=1000)&&CQ M g&&tF M (EK g) n)
 |_=>Y) λvs v new e=>by
 split at e
 ·simp only[Mf,aad,No,aac] at e;have⟨rfl,rfl,⟨c,b⟩,d⟩:=e;exact ak.conv (Sr c d) ⟨VE.tu b,VE.refl _,VE.refl _,trivial⟩ trivial (VE.refl _) trivial
 ·cases e
def Ky(b:Nat)(u:Bool)(l:List (Nat×Bool)):cu:=mk [y6 b,Sx u,CS,ahU] [] (uT l)
def nL b u l:aq Q (Ky b u l):=au _ aN.nil _ _
abbrev vZ(n:Int):SV:=.bP [.nl (.map Y),.sM cG,.iface 112 (.t6 n)]
def ayL N t i own s cm:(aV Q (Ky 1 Z []) 60 f60 [.p4 I N t,.t6 i,.t6 own,.sM s,.bool cm] []).v3=E (vZ 3,aa Z (aa Z ((cX N λi=>ah (aA t i))&&C (N<=71)&&iJ N (ai λi=>ah (aA t i)) i==1))):=by kernel_rfl
def ayM N t i own s cm:(aV Q (Ky 2 Z []) 60 f60 [.p4 I N t,.t6 i,.t6 own,.sM s,.bool cm] []).v3=E (vZ 9,aa Z (aa Z ((cX N λi=>ah (aA t i))&&C (N<=71)&&iJ N (ai λi=>ah (aA t i)) i==2))):=by kernel_rfl
def ayN N t i own s cm:(aV Q (Ky 0 I []) 60 f60 [.p4 I N t,.t6 i,.t6 own,.sM s,.bool cm] []).v3=E (vZ 9,aa (aa Z (aa Z ((cX N λi=>ah (aA t i))&&C (N<=71)&&iJ N (ai λi=>ah (aA t i)) i==0))) (aa Z ((cX N λi=>ah (aA t i))&&lO N (ai λi=>ah (aA t i)) own==I))):=by kernel_rfl
def ayO N t i own s cm:(aV Q (Ky 0 Z [(37,Z)]) 60 f60 [.p4 I N t,.t6 i,.t6 own,.sM s,.bool cm] []).v3=E (vZ 9,aa (aa (aa Z (aa Z ((cX N λi=>ah (aA t i))&&C (N<=71)&&iJ N (ai λi=>ah (aA t i)) i==0))) (aa Z ((cX N λi=>ah (aA t i))&&lO N (ai λi=>ah (aA t i)) own==Z))) (own==i)):=by kernel_rfl
def ayP N t i own s cm:(aV Q (Ky 0 Z [(37,I),(48,Z)]) 60 f60 [.p4 I N t,.t6 i,.t6 own,.sM s,.bool cm] []).v3=E (vZ 10,aa (aa (aa (aa (aa Z (aa Z ((cX N λi=>ah (aA t i))&&C (N<=71)&&iJ N (ai λi=>ah (aA t i)) i==0))) (aa Z ((cX N λi=>ah (aA t i))&&lO N (ai λi=>ah (aA t i)) own==Z))) !own==i) (aa Z ((C (cT N (ai λi=>ah (aA t i)) i<=1000)&&CQ (cT N (ai λi=>ah (aA t i)) i) λi_1=>ah (gX (j8 N (ai λi=>ah (aA t i)) i) i_1))&&tF (cT N (ai λi=>ah (aA t i)) i) (EK λi_1=>ah (gX (j8 N (ai λi=>ah (aA t i)) i) i_1)) (aY (N:Int))))) (C (OH own (cT N (ai λi=>ah (aA t i)) i) (EK λi_1=>ah (gX (j8 N (ai λi=>ah (aA t i)) i) i_1))<0))):=by kernel_rfl
def Ir:Code:=aI f60
def ZH:Code:=br (br (br (br (br Ir))))
def frZ:Code:=br ZH
def Is:Array Oper:=match cq ZH with
 | .region _ a _=>a
 |_=>#[]
def frT(N:Nat)(t:Nat->aE)(M:Nat)(T:Nat->Int×Int×Int)(iv:Int)(cm:Bool):List (Option SV):=ag 67 [(0,.p4 I N t),(4,.bool cm),(8,.r5 0),(11,.r5 1),(13,.aO Z 3 M (gX T)),(15,.t6 iv)]
def EP(s:pD):List Blk:=[.b [.t5 s],.b [.t5 cG]]
def Sz N(t:Nat->aE) i own s cm:aD (az [0,4,8,11,13,15] 2 ((bh Q (Ky 0 Z [(37,I),(48,I)]) 60 0 5 [cq Ir,cq (br Ir),cq (br (br Ir)),cq (br (br (br Ir))),cq (br (br (br (br Ir))))] ⟨aU f60.ntmps [.p4 I N t,.t6 i,.t6 own,.sM s,.bool cm],[],Z⟩).x3))=(E (.normal,frT N t (cT N (ai λi=>ah (aA t i)) i) (j8 N (ai λi=>ah (aA t i)) i) (OH own (cT N (ai λi=>ah (aA t i)) i) (EK λk=>ah (gX (j8 N (ai λi=>ah (aA t i)) i) k))) cm,EP s),(aa (aa (aa (aa (aa Z (aa Z ((cX N λi=>ah (aA t i))&&C (N<=71)&&iJ N (ai λi=>ah (aA t i)) i==0))) (aa Z ((cX N λi=>ah (aA t i))&&lO N (ai λi=>ah (aA t i)) own==Z))) !own==i) (aa Z ((C (cT N (ai λi=>ah (aA t i)) i<=1000)&&CQ (cT N (ai λi=>ah (aA t i)) i) λi_1=>ah (gX (j8 N (ai λi=>ah (aA t i)) i) i_1))&&tF (cT N (ai λi=>ah (aA t i)) i) (EK λi_1=>ah (gX (j8 N (ai λi=>ah (aA t i)) i) i_1)) (aY (N:Int))))) !C (OH own (cT N (ai λi=>ah (aA t i)) i) (EK λi_1=>ah (gX (j8 N (ai λi=>ah (aA t i)) i) i_1))<0))):=by kernel_rfl
def frG(v:SV):ct:=λf _ h _=>match f with
 | .func a=>match Nat.beq a 93 with
  |true=>E (v,h,[],Z)
  |false=>Y
 |_=>Y
def frΓ:cu:={g:=λ_ _ _ _=>Y,inl:=λ_=>Y,pf:=λ_=>0,nb:=λ_=>0,sym:=λ_=>Y,eZ:=λ_=>I}
def frR(N:Nat)(t:Nat->aE)(M:Nat)(T:Nat->Int×Int×Int)(iv:Int)(cm:Bool)(s:pD)(v:SV):Option (St×List Sy.Fp):=y7 Q frΓ (frG v) 2 Is 2 (fA Is.toList []) (t8 Is.size) ⟨frT N t M T iv cm,EP s++t9 (kN frΓ.nb Is.toList) .gap,Z⟩
abbrev QU(cv:pD)(m:Nat):SV:=.bP [eV m,.sM cv,.nl .nilIface]
def ZI(cm:Bool)(a ev:SV):List (Option SV):=ag 67 [(4,.bool cm),(11,.r5 1),(14,ev),(16,a),(17,.r5 2)]
def Kz(N:Nat)(t:Nat->aE)(M:Nat)(T:Nat->Int×Int×Int) iv(cm:Bool) s cv(m:Nat):aD (az [4,11,14,16,17] 3 ((frR N t M T iv cm s (QU cv m)).map λq=>(Exit.normal,q.1)))=(E (.normal,ZI cm (eV m) (.nl .nilIface),EP s++[.b [.t5 cv]]),(aa Z (aa Z (aa Z (C (0<=iv)&&C (iv<=(M:Int))))))):=by kernel_rfl
def aqf N t M T iv cm s cv m:=bu (Kz N t M T iv cm s cv m)
def ahX N t M T iv cm s cv m:=bz (Kz N t M T iv cm s cv m)
def KA(N:Nat)(t:Nat->aE)(M:Nat)(T:Nat->Int×Int×Int) iv(cm:Bool) s:aD (az [4,11,14,16,17] 3 ((frR N t M T iv cm s (vZ 2)).map λq=>(Exit.normal,q.1)))=(E (.normal,ZI cm (.nl (.map Y)) (.iface 112 (.t6 2)),EP s++[.b [.t5 cG]]),(aa Z (aa Z (aa Z (C (0<=iv)&&C (iv<=(M:Int))))))):=by kernel_rfl
def aqg N t M T iv cm s:=bu (KA N t M T iv cm s)
def ahY N t M T iv cm s:=bz (KA N t M T iv cm s)
def KB s cv(m:Nat):aD (az [10,11,12] 2 (exec Q (Ky 0 Z []) 60 3 frZ ⟨ZI Z (eV m) (.nl .nilIface),EP s++[.b [.t5 cv]],Z⟩))=(E (.ret,ag 67 [(10,eV m),(11,.r5 1),(12,.nl .nilIface)],[.b [.t5 s],.b [.t5 cv]]),(Z)):=by kernel_rfl
def KC s cv(m:Nat):aD (az [10,11,12] 2 (exec Q (Ky 0 Z []) 60 3 frZ ⟨ZI I (eV m) (.nl .nilIface),EP s++[.b [.t5 cv]],Z⟩))=(E (.ret,ag 67 [(10,eV m),(11,.r5 1),(12,.nl .nilIface)],[.b [.t5 s],.b [.t5 cG]]),(Z)):=by kernel_rfl
def KD s cv:aD (az [10,11,12] 2 (exec Q (Ky 0 Z []) 60 3 frZ ⟨ZI Z (.nl (.map Y)) (.iface 112 (.t6 2)),EP s++[.b [.t5 cv]],Z⟩))=(E (.ret,ag 67 [(10,.nl (.map Y)),(11,.r5 1),(12,.iface 112 (.t6 2))],[.b [.t5 s],.b [.t5 cv]]),(Z)):=by kernel_rfl
def KE s cv:aD (az [10,11,12] 2 (exec Q (Ky 0 Z []) 60 3 frZ ⟨ZI I (.nl (.map Y)) (.iface 112 (.t6 2)),EP s++[.b [.t5 cv]],Z⟩))=(E (.ret,ag 67 [(10,.nl (.map Y)),(11,.r5 1),(12,.iface 112 (.t6 2))],[.b [.t5 s],.b [.t5 cG]]),(Z)):=by kernel_rfl
end Fo
end Go.Proofs.YthlnlcijnoadcaaGreatDoor
namespace Go.Sy
def VE.ahc(f:Bool)(z n:Nat) g:VE (.aO f z n g) (.aO I z n g):=λe x h=>by
 rcases h with h|⟨m,o,cap,c,t,e,b,a,_,d⟩
 ·exact .inl h
 ·exact .inr ⟨m,o,cap,c,t,e,b,a,(by simp),d⟩
def SA.lr{e}:∀{us vs}{ys},SA us vs->LR e us ys->LR e vs ys
 | [],[],_,_,h=>h
 | [],_::_,_,g,_=>g.elim
 |_::_,[],_,g,_=>g.elim
 |_::_,_::_,_,⟨f,c⟩,⟨y,j,b,a,d⟩=>⟨y,j,f _ _ b,SA.lr c a,d⟩
def eL.args{P f us vs p ι}{v:ι->SV}{G:ι->HP}(g:eL P f vs [] p v G)(h:SA us vs):eL P f us [] p v G:=
 λB e w args hB a R b=>g B e w args hB (h.lr a) R b
def eL.ayR{P f us}{v:SV}(g:ak P f us [] v []):eL P f us [] (λ_=>True) (λ_:Unit=>v) (λ_=>TH):=
 λB e w args hB d R _=>(g B e w args hB d R).mono (by rintro p l ⟨c,rfl,k,j,h,S⟩;exact⟨c,(),rfl,k,h,by rw[<-j];exact S,trivial⟩)
def fu.ayS{P f us v G}(g:eL P f us [] (λ_=>True) (λ_:Unit=>v) G):ak P f us [] v []:=
 λB e w args hB d R=>(g B e w args hB d R trivial).mono (by rintro l k ⟨c,_,rfl,e',j,S,_⟩;exact⟨c,rfl,{e' with m:=e.m},rfl,VR.mono (e:=e') (e':={e' with m:=e.m}) ⟨λ_ _ h=>h,λ_ _ h=>h,aar _⟩ j,S⟩)
section
variable {P:Program} {ro:Option Nat} {k:Nat} {H H1:HP} {ι:Type}
def fu.QO{c s x S S'}{G:ι->HP}(D:∀m,gj (G m))(h:fu P ro k c s H x S G)(g:∀m,bG k (S m) (S' m)):fu P ro k c s H x S' G:=
 λB e w b d Q p hB r R z v=>h B e w b d Q p hB r R z λm e1 a t1 u y q=>by have⟨e2,f,l,j⟩:=g m B e1 a t1 hB u y;rw[<-f];exact v m e2 a t1 l j (D m _ _ _ _ q)
def fu.CI(D:fT H){b x S}{G:ι->HP}{l:List Code}{s s1:St}(g:TrL P ro (A s.h) l s .normal s1)(h:fu P ro k b s1 H x S G):fu P ro k (l.foldr .seq b) s H x S G:=by
 intro B e w L d Q u hB J R U hQ
 have r:∀(l:List Code)(p:St),TrL P ro (A s.h) l p .normal s1->∀(e':cw)(f:World)(t2:List Value),TR e' p.t t2->bM (fC e s.h w) e' p.h f->(l.foldr Code.seq b).wpIn (wF ro) u P Q ⟨⟨t2⟩,n6 e'.m++(n6 e.m++d)⟩ f:=by
  intro l
  induction l with
  |nil=>
   intro p g e' f t2 j q
   have⟨_,rfl⟩:=g
   have:=h B {e' with m:=e'.m++e.m} f t2 d Q u hB (TR.mono (e:=e') (e':={e' with m:=e'.m++e.m}) ⟨λ_ _ h=>h,λ_ _ h=>h,aar _⟩ j) (R.y8 q) (D B e s.h w e' _ f _ R U q) hQ
   rw[tH,aeH] at this
   exact this
  |cons a l W=>
   intro p g e' f t2 j q
   rcases g with⟨V,K,F⟩|⟨z,_⟩
   ·exact wpIn_seq (K _ e' f t2 _ _ u (aar _) j q λe3 w3 t3 v y=>W V F e3 w3 t3 v y)
   ·exact absurd rfl z
 have:=r l s g (e.uO s.h) w L (J.mono (jH e s.h)) R.self
 exact this
def fu.pre(l:gj H){c s s1 x S}{G:ι->HP}(h:fu P ro k c s1 H x S G)(g:bG k s s1):fu P ro k c s H x S G:=
 λB e w a d Q p hB q R u r=>by have⟨e1,f,b,j⟩:=g B e w a hB q R;rw[<-f];exact h B e1 w a d Q p hB b j (l _ _ _ _ u) r
def fu.jh{Γ}(w:aq P Γ)(y:fT H)(r:gj H) n live m(v:k<=m){l:List Code}{b:Code}{s s1:St}{x:Exit}{S:ι->St}{G:ι->HP}(f:Bool)
  (e:jd (az live m ((bh P Γ n (A s.h) (A l) l s).x3))=E (.normal,s1.t,s1.h))(c:uF (az live m ((bh P Γ n (A s.h) (A l) l s).x3))=f)(h:f=Z)
  (g:fu P ro k b s1 H x S G):fu P ro k (l.foldr .seq b) s H x S G:=by unfold jd az at e;unfold uF az at c;cases d:bh P Γ n (A s.h) (A l) l s with
 |none=>rw[d] at e;cases e
 |some q=>
  rw[d] at e c
  simp only[acs,ajZ] at e c
  cases a:q.cut live m with
  |none=>rw[a] at e;cases e
  |some z=>
   rw[a] at e c
   simp only[acs,Mf,aad,true_and] at e c
   have⟨p,j⟩:=e
   have u:q.ob=Z:=by
    unfold St.cut St.dS at a
    split at a
    ·cases a;exact c.trans h
    ·cases a
   have:=(m8 w n (A l) (ro:=ro) d u (by rw[List.drop_length];exact⟨rfl,rfl⟩)).1
   exact fu.CI y this (g.pre r ((bG.cut v a).trans (bG.bR p j)))
theorem fu.pC{Γ}(w:aq P Γ)(y:fT H)(r:gj H){n}{live}{m}(v:k<=m){l:List Code}{b:Code}{s s1:St}{x:Exit}{S:ι->St}{G:ι->HP}{f:Bool}(e:aD (az live m ((bh P Γ n (A s.h) (A l) l s).x3))=(E (.normal,s1.t,s1.h),f))(h:f=Z)(g:fu P ro k b s1 H x S G):fu P ro k (l.foldr .seq b) s H x S G:=fu.jh w y r n live m v f (bu e) (bz e) h g
def It{Γ G f v}(Q:Γ.sym=λ_=>Y)(J:∀vs h j,G (.func f) vs h j=E (v,h,[],Z)){k n i ops m o c x s g φ}(u:o.op=.call c)(w:c.callee=.value x)(B:ev s.t x=E (.fn (.func f) [] []))(d:o.guard=Y)
  (h:eW P Γ G k ops n m i o s=E (g,φ)):g.t=bK s.t o.dst v/\g.h=s.h/\φ.sl=(o.looksAt ops).map λi=>s.t[i]? :=by
 have z:eC ops s.t o=E Z:=by unfold eC;rw[d]
 have D:uX Γ o=I:=by
  unfold uX BA
  rw[u]
  simp only[w]
 unfold eW at h
 rw[z,D] at h
 simp only at h
 split at h
 ·rename_i q e
  have⟨v1,V,p1,W⟩:=q
  obtain⟨_,r,a,K,y,F,l,rfl,rfl,rfl,rfl⟩:=dA.1 e
  simp only[Mf,aad] at h
  have⟨rfl,rfl⟩:=h
  unfold oL at a
  rw[u] at a
  simp only[w] at a
  split at a
  ·rename_i S first U vs p L
   rw[B] at p
   cases p
   split at a
   ·obtain⟨⟨R,h',new,q⟩,b,rfl⟩:=aaC.1 a
    rw[J] at b
    cases b
    refine⟨?_,?_,rfl⟩
    ·unfold gk
     rw[Q]
     cases o.dst<;>rfl
    ·simp[c8]
   ·cases a
  ·cases a
 ·cases h
end
end Go.Sy
namespace Go.Proofs.YthlnlcijnoadcaaGreatDoor
namespace Fo
open Sy Sh La Re Tr Pa Mk Wi
def Kk(k:Nat)(T:Nat->Int×Int×Int):Nat->Int×Int×Int:=λj=>T (j+k)
def SB:ZH=.seq (cq ZH) frZ:=by kernel_rfl
def aaL:cq ZH=.region 9 Is Z:=by kernel_rfl
def ah3:Ir=[cq Ir,cq (br Ir),cq (br (br Ir)),cq (br (br (br Ir))),cq (br (br (br (br Ir))))].foldr .seq ZH:=by kernel_rfl
def ah4:(Is.toList.zipIdx.all λp=>p.2==5||yx p.1.op)=Z:=by kernel_rfl
def aql:(Is[5]?).bind yW=E (E 57,.value (.func 93),#[23,103,26],#[.tmp 52,.tmp 55,.tmp 56]):=by kernel_rfl
def aqm:(Is[5]?).map (λo=>(o.looksAt Is,o.guard))=E ([52,55,56],Y):=by kernel_rfl
def ah5:5<Is.size:=by
 have:Is.size=14:=by kernel_rfl
 rw[this];decide
def SC v:me frΓ.pf (frG v):=by
 refine⟨λf _ c h j u d new p e=>?_,λf a=>by cases a⟩
 unfold frG at e
 simp only at e
 split at e
 ·cases e
  refine⟨rfl,λh2=>?_⟩
  rename_i b
  unfold frG
  simp only[b]
 ·cases e
section
variable {ι:Type} {N M:Nat} {t:Nat->aE} {T:Nat->Int×Int×Int} {iv:Int} {cm:Bool} {s:pD}
def KF{v G}(g:eL prog 93 [.p4 I N t,.aO I 3 (M-O iv) (gX (Kk (O iv) T)),.sM s] [] (λ_=>True) v G)(r:∀m,Low (G m))(hK:∀m,fT (G m)){S}{fs:ι->List Sy.Fp}
  (hr:∀m,frR N t M T iv cm s (v m)=E (S m,fs m))(hd:∀m,oM prog frΓ 2 (fs m) Is=Z)(QV:∀m,(mZ (fs m) 5).sl=[E (E (.p4 I N t)),E (E (.aO Z 3 (M-O iv) (gX (Kk (O iv) T)))),E (E (.sM s))])(cY:∀m,(S m).ob=Z)(z:ι):
  fu prog Y 0 (cq ZH) ⟨frT N t M T iv cm,EP s,Z⟩ TH .normal S (λm=>cZ (G m) TH):=by
 have⟨o5,c5,u,j,h⟩:=wu aql
 simp only[aad] at h
 have⟨ab,k,_,y⟩:=h
 have b:=aqm
 rw[u] at b
 simp only[acs,Mf,aad] at b
 rw[aaL]
 refine fu.aqo (G0:=λ_ _ _ _=>Y) (λ_ _ _ _ _ _ _ e=>by cases e) (λm=>SC (v m)) rfl 9 5 (λi o hi p=>?_) ah5 hd hr cY z ?_ λm=>cZ.bJ (hK m) TH.bJ
 ·have:=aaB.1 ah4 (o,i) (by rw[List.mk_mem_zipIdx_iff_getElem?];exact p)
  simp only[agV,afP] at this
  exact this.resolve_left hi
 ·intro s1 F o p x ac B e w t' d Q nn K hB hl R W
  have l:Is[5]?=E o:=by simpa using p
  rw[u] at l
  cases l
  have n:=λm=>It (v:=v m) rfl (λ_ _ _=>rfl) j k.symm rfl b.2 (x m)
  have⟨_,_,c⟩:=n z
  rw[QV z,b.1] at c
  simp only[agr,List.map_nil,aiT,aj7] at c
  have⟨e1,e2,e3⟩:=c
  have J:uP s1.t c5.args.toList=E [.p4 I N t,.aO Z 3 (M-O iv) (gX (Kk (O iv) T)),.sM s]:=by
   rw[<-y]
   simp only[uP,ev, <-e1, <-e2, <-e3]
  refine Kn (H:=TH) func93 (by decide) (by intro q;cases q) (g.args (us:=[.p4 I N t,.aO Z 3 (M-O iv) (gX (Kk (O iv) T)),.sM s]) ⟨VE.refl _,VE.ahc _ _ _ _,VE.refl _,trivial⟩) rfl r TH.bJ TH.cj (λ_ _ _ _=>trivial) u j k.symm rfl J (by unfold eC;rw[b.2]) hl R trivial λm e' w' L hm D V hg=>?_
  have⟨q1,U,_⟩:=n m
  rw[<-hm]
  exact W m e' w' L (by rw[q1];exact D) (by rw[U];exact V) hg
end
def KG{k m live}(f:k<=m){S x t2 h2 ob}(e:jd (az live m (E (x,S)))=E (x,t2,h2))(b:uF (az live m (E (x,S)))=ob)(h:ob=Z):S.ob=Z/\∀o,bG k S ⟨t2,h2,o⟩:=by
 unfold jd az at e
 unfold uF az at b
 simp only[ajZ] at e b
 cases a:S.cut live m with
 |none=>rw[a] at e;cases e
 |some q=>
  rw[a] at e b
  simp only[acs,Mf,aad,true_and] at e b
  have⟨c,d⟩:=e
  refine⟨?_,λo=>(bG.cut f a).trans (bG.bR c d)⟩
  unfold St.cut St.dS at a
  split at a
  ·cases a;exact b.trans h
  ·cases a
theorem pA{k m live}(f:k<=m){S x t2 h2 ob}(e:aD (az live m (E (x,S)))=(E (x,t2,h2),ob))(h:ob=Z):S.ob=Z/\∀o,bG k S ⟨t2,h2,o⟩:=KG f (bu e) (bz e) h
def qg(N:Nat)(t:Nat->aE)(M:Nat)(T:Nat->Int×Int×Int)(iv:Int)(cm:Bool)(s:pD)(v:SV):St×List Sy.Fp:=(frR N t M T iv cm s v).getD (⟨[],[],Z⟩,[])
def afC(N:Nat) t(M:Nat)(T:Nat->Int×Int×Int) iv cm s cv(m:Nat):frR N t M T iv cm s (QU cv m)=E (qg N t M T iv cm s (QU cv m)):=by kernel_rfl
def aqp(N:Nat) t(M:Nat)(T:Nat->Int×Int×Int) iv cm s cv(m:Nat):oM Q frΓ 2 (qg N t M T iv cm s (QU cv m)).2 Is=Z:=by kernel_rfl
def aqq(N:Nat) t(M:Nat)(T:Nat->Int×Int×Int) iv cm s cv(m:Nat):(mZ (qg N t M T iv cm s (QU cv m)).2 5).sl=[E (E (.p4 I N t)),E (E (.aO Z 3 (M-O iv) (gX (Kk (O iv) T)))),E (E (.sM s))]:=by kernel_rfl
def afD(N:Nat) t(M:Nat)(T:Nat->Int×Int×Int) iv cm s:frR N t M T iv cm s (vZ 2)=E (qg N t M T iv cm s (vZ 2)):=by kernel_rfl
def aqr(N:Nat) t(M:Nat)(T:Nat->Int×Int×Int) iv cm s:oM Q frΓ 2 (qg N t M T iv cm s (vZ 2)).2 Is=Z:=by kernel_rfl
def aqs(N:Nat) t(M:Nat)(T:Nat->Int×Int×Int) iv cm s:(mZ (qg N t M T iv cm s (vZ 2)).2 5).sl=[E (E (.p4 I N t)),E (E (.aO Z 3 (M-O iv) (gX (Kk (O iv) T)))),E (E (.sM s))]:=by kernel_rfl
def ah8{N:Nat}{t}{M:Nat}{T:Nat->Int×Int×Int}{iv cm s cv}(m:Nat)(c:0<=iv)(h1:iv<=(M:Int)):(qg N t M T iv cm s (QU cv m)).1.ob=Z/\∀o,bG 0 (qg N t M T iv cm s (QU cv m)).1 ⟨ZI cm (eV m) (.nl .nilIface),EP s++[.b [.t5 cv]],o⟩:=by have e:=aqf N t M T iv cm s cv m;have a:=ahX N t M T iv cm s cv m;rw[afC] at e a;exact KG (aaH 3) e a (by rw[Me c,Me h1];rfl)
def ah9{N:Nat}{t}{M:Nat}{T:Nat->Int×Int×Int}{iv cm s}(c:0<=iv)(h1:iv<=(M:Int)):(qg N t M T iv cm s (vZ 2)).1.ob=Z/\∀o,bG 0 (qg N t M T iv cm s (vZ 2)).1 ⟨ZI cm (.nl (.map Y)) (.iface 112 (.t6 2)),EP s++[.b [.t5 cG]],o⟩:=by have e:=aqg N t M T iv cm s;have a:=ahY N t M T iv cm s;rw[afD] at e a;exact KG (aaH 3) e a (by rw[Me c,Me h1];rfl)
def aia(N:Nat) t(M:Nat)(T:Nat->Int×Int×Int) iv cm s cv(m:Nat):frR N t M T iv cm s (QU cv m)=E ((qg N t M T iv cm s (QU cv m)).1,(qg N t M T iv cm s (QU cv m)).2):=by rw[afC]
def aib(N:Nat) t(M:Nat)(T:Nat->Int×Int×Int) iv cm s:frR N t M T iv cm s (vZ 2)=E ((qg N t M T iv cm s (vZ 2)).1,(qg N t M T iv cm s (vZ 2)).2):=by rw[afD]
def gW(N:Nat)(t:Nat->aE)(i own:Int):Int:=OH own (cT N t i) (j8 N t i)
section
variable {N:Nat} {t:Nat->aE} {i own:Int} {cm:Bool} {s:pD}
def fF(r:eo N t)(h:iJ N t i=0):tF (cT N t i) (j8 N t i) (aY N)=Z/\inT N (cT N t i) (j8 N t i)=Z/\cT N t i<=5:=by
 obtain⟨_,_,n,j,f,l,rfl,d,hN,_⟩:=Bw r h
 obtain⟨p,o⟩:=RE f l d
 have b:∀k,k<cT N t (j:Int)->Tr.bf (j8 N t (j:Int) k).1 n=Z:=λk c=>by
  have⟨a,u,e⟩:=p.way k c
  have⟨g,_⟩:=sX f l
  rw[show((2*j:Nat):Int)=2*(j:Int) by omega] at g
  rw[e];exact(g a u).1
 refine⟨aaB.2 λk c=>by rw[d];exact b k (aaI.1 c),aaB.2 λk c=>?_,o⟩
 have⟨m,x,y,v,q,w⟩:=fW (b k (aaI.1 c))
 rw[q]
 exact bW (by omega)
def CT own(M:Nat)(T:Nat->Int×Int×Int):OH own M T<=M:=by
 unfold OH cR
 cases h:cV (λi=>!Io own (T i).1) M with
 |none=>simp only[];omega
 |some i=>have:=(dr h).1;simp only[];omega
def RB(a:eo N t)(h:iJ N t i=1):ak Q 60 [.p4 I N t,.t6 i,.t6 own,.sM s,.bool cm] [] (vZ 3) []:=
 aP (nL 1 Z []) 60 func60 (ayL N t i own s cm) (by rw[show cX N (λi=>ah (aA t i))=Z from bU a,Me a.le,show iJ N (ai λi=>ah (aA t i)) i=1 from h];rfl) rfl
def RC(a:eo N t)(h:iJ N t i=2):ak Q 60 [.p4 I N t,.t6 i,.t6 own,.sM s,.bool cm] [] (vZ 9) []:=
 aP (nL 2 Z []) 60 func60 (ayM N t i own s cm) (by rw[show cX N (λi=>ah (aA t i))=Z from bU a,Me a.le,show iJ N (ai λi=>ah (aA t i)) i=2 from h];rfl) rfl
def ahj(a:eo N t)(h:iJ N t i=0)(b:lO N t own=I):ak Q 60 [.p4 I N t,.t6 i,.t6 own,.sM s,.bool cm] [] (vZ 9) []:=
 aP (nL 0 I []) 60 func60 (ayN N t i own s cm) (by rw[show cX N (λi=>ah (aA t i))=Z from bU a,Me a.le,show iJ N (ai λi=>ah (aA t i)) i=0 from h,show lO N (ai λi=>ah (aA t i)) own=I from b];rfl) rfl
def ahk(a:eo N t)(h:iJ N t i=0)(c:lO N t own=Z)(b:own=i):ak Q 60 [.p4 I N t,.t6 i,.t6 own,.sM s,.bool cm] [] (vZ 9) []:=
 aP (nL 0 Z [(37,Z)]) 60 func60 (ayO N t i own s cm) (by rw[show cX N (λi=>ah (aA t i))=Z from bU a,Me a.le,show iJ N (ai λi=>ah (aA t i)) i=0 from h,show lO N (ai λi=>ah (aA t i)) own=Z from c,afP.2 b];rfl) rfl
def ahl(b:eo N t)(h:iJ N t i=0)(f:lO N t own=Z)(e:own≠i)(c:gW N t i own<0):ak Q 60 [.p4 I N t,.t6 i,.t6 own,.sM s,.bool cm] [] (vZ 10) []:=by have⟨d,_,l⟩:=fF b h;have g:(ai λi=>ah (aA t i))=t:=rfl;have j:∀T,(EK λk=>ah (gX T k))=T:=λ_=>rfl;have a:∀M(T:Nat->Int×Int×Int),(CQ M λk=>ah (gX T k))=Z:=λ_ _=>aaB.2 λ_ _=>rfl;refine aP (nL 0 Z [(37,I),(48,Z)]) 60 func60 (ayP N t i own s cm) ?_ rfl;unfold gW at c;rw[g,j,a,show cX N (λi=>ah (aA t i))=Z from bU b,Me b.le,h,f,ahR.2 e,d,Me (by omega),Me c];rfl
def SD(h:inT N (cT N t i) (j8 N t i)=Z)(k:Nat):inT N (cT N t i-k) (Kk k (j8 N t i))=Z:=aaB.2 λj a=>by have:=aaI.1 a;exact aaB.1 h (j+k) (aaI.2 (by omega))
def frQ(N:Nat)(t:Nat->aE)(i own:Int)(s:pD):Bool:=(t8 (cT N t i-O (gW N t i own))).all (ZG t (Kk (O (gW N t i own)) (j8 N t i)) s)
def ER(c:eo N t)(h:iJ N t i=0)(f:lO N t own=Z)(e:own≠i)(j:0<=gW N t i own){ι x}{S:ι->St}{G:ι->HP}(g:fu Q Y 0 ZH ⟨frT N t (cT N t i) (j8 N t i) (gW N t i own) cm,EP s,Z⟩ TH x S G):
  fu Q Y 0 Ir ⟨aU f60.ntmps [.p4 I N t,.t6 i,.t6 own,.sM s,.bool cm],[],Z⟩ TH x S G:=by
 have⟨d,_,n⟩:=fF c h
 have l:(ai λi=>ah (aA t i))=t:=rfl
 have m:∀T,(EK λk=>ah (gX T k))=T:=λ_=>rfl
 have a:∀M(T:Nat->Int×Int×Int),(CQ M λk=>ah (gX T k))=Z:=λ_ _=>aaB.2 λ_ _=>rfl
 rw[ah3]
 refine fu.pC (nL 0 Z [(37,I),(48,I)]) TH.bJ TH.cj (aaH _) (Sz N t i own s cm) ?_ g
 have b:¬OH own (cT N t i) (j8 N t i)<0:=by unfold gW at j;omega
 rw[l,m,a,show cX N (λi=>ah (aA t i))=Z from bU c,Me c.le,h,f,ahR.2 e,d,Me (by omega),aaS b]
 rfl
def ahn(e:eo N t)(h:iJ N t i=0)(hu:lO N t own=Z)(l:own≠i)(j:0<=gW N t i own)(hs:A s=32)(m:frQ N t i own s=I):ak Q 60 [.p4 I N t,.t6 i,.t6 own,.sM s,.bool cm] [] (vZ 2) []:=by
 have⟨_,k,w3⟩:=fF e h
 have d:=CT own (cT N t i) (j8 N t i)
 have g:=eL.ayR (Iq e hs (by omega) (SD k _) m)
 have f:=ah9 (N:=N) (t:=t) (M:=cT N t i) (T:=j8 N t i) (iv:=gW N t i own) (cm:=cm) (s:=s) j d
 have c:=KF (S:=λ_=>(qg N t (cT N t i) (j8 N t i) (gW N t i own) cm s (vZ 2)).1) (fs:=λ_=>(qg N t (cT N t i) (j8 N t i) (gW N t i own) cm s (vZ 2)).2) g (λ_=>TH.low) (λ_=>TH.bJ) (λ_=>aib N t (cT N t i) (j8 N t i) (gW N t i own) cm s) (λ_=>aqr N t (cT N t i) (j8 N t i) (gW N t i own) cm s) (λ_=>aqs N t (cT N t i) (j8 N t i) (gW N t i own) cm s) (λ_=>f.1) ()
 have c2:=fu.QO (λ_=>cZ.cj TH.cj TH.cj) c (S':=λ_=>⟨ZI cm (.nl (.map Y)) (.iface 112 (.t6 2)),EP s++[.b [.t5 cG]],Z⟩) λ_=>f.2 Z
 have hD:fu Q Y 0 ZH ⟨frT N t (cT N t i) (j8 N t i) (gW N t i own) cm,EP s,Z⟩ TH .ret (λ_:Unit=>⟨ag 67 [(10,.nl (.map Y)),(11,.r5 1),(12,.iface 112 (.t6 2))],[.b [.t5 s],.b [.t5 cG]],Z⟩) (λ_=>TH):=by
  rw[SB]
  refine fu.EC c2 λ_=>TrX.ahA (H1:=TH) ?_ λ_ _ _ _=>trivial
  cases cm with
  |true=>exact TrX.i4 (nL 0 Z []) TH.bJ TH.cj (aaH _) (KD s cG) rfl
  |false=>exact TrX.i4 (nL 0 Z []) TH.bJ TH.cj (aaH _) (KE s cG) rfl
 exact fu.ayS (eL.of (vs:=λ_:Unit=>[.nl (.map Y),.sM cG,.iface 112 (.t6 2)]) func60 (c:=Ir) (p:=λ_=>True) rfl (.inl rfl) (λ_=>TH.low) (λ_=>TH.CL) (ER e h hu l j hD) (λ_=>rfl) (λ_=>by kernel_rfl))
def aal(e:eo N t)(h:iJ N t i=0)(hu:lO N t own=Z)(n:own≠i)(j:0<=gW N t i own)(hs:A s=32)(hq:frQ N t i own s=Z):
  eL Q 60 [.p4 I N t,.t6 i,.t6 own,.sM s,.bool cm] [] (λ_=>True) (λm=>.bP [eV m,.agg [.t5 (bif cm then dH s (cT N t i-O (gW N t i own)) else cG)],.nl .nilIface])
   (λm=>bA Z m (gF (H9 (Kk (O (gW N t i own)) (j8 N t i)) s) (cT N t i-O (gW N t i own)))):=by
 have⟨_,k,w3⟩:=fF e h
 have d:=CT own (cT N t i) (j8 N t i)
 have g:=ON e hs (by omega) (SD k _) hq
 generalize H8:dH s (cT N t i-O (gW N t i own))=cv at g ⊢
 have f:=λm=>ah8 (N:=N) (t:=t) (M:=cT N t i) (T:=j8 N t i) (iv:=gW N t i own) (cm:=cm) (s:=s) (cv:=cv) m j d
 have c:=KF (S:=λm=>(qg N t (cT N t i) (j8 N t i) (gW N t i own) cm s (QU cv m)).1) (fs:=λm=>(qg N t (cT N t i) (j8 N t i) (gW N t i own) cm s (QU cv m)).2) g (λ_=>bA.low _ _ _) (λ_=>bA.bJ _ _ _) (λm=>aia N t (cT N t i) (j8 N t i) (gW N t i own) cm s cv m) (λm=>aqp N t (cT N t i) (j8 N t i) (gW N t i own) cm s cv m) (λm=>aqq N t (cT N t i) (j8 N t i) (gW N t i own) cm s cv m) (λm=>(f m).1) 0
 have c2:=fu.QO (λ_=>cZ.cj (bA.cj _ _ _) TH.cj) c (S':=λm=>⟨ZI cm (eV m) (.nl .nilIface),EP s++[.b [.t5 cv]],Z⟩) λm=>(f m).2 Z
 have hD:fu Q Y 0 ZH ⟨frT N t (cT N t i) (j8 N t i) (gW N t i own) cm,EP s,Z⟩ TH .ret (λm=>⟨ag 67 [(10,eV m),(11,.r5 1),(12,.nl .nilIface)],[.b [.t5 s],.b [.t5 (bif cm then cv else cG)]],Z⟩) (λm=>bA Z m (gF (H9 (Kk (O (gW N t i own)) (j8 N t i)) s) (cT N t i-O (gW N t i own)))):=by
  rw[SB]
  refine fu.EC c2 λm=>TrX.ahA ?_ λ_ _ _ l=>l.1
  cases cm with
  |true=>exact TrX.i4 (nL 0 Z []) (bA.bJ _ _ _) (bA.cj _ _ _) (aaH _) (KB s cv m) rfl
  |false=>exact TrX.i4 (nL 0 Z []) (bA.bJ _ _ _) (bA.cj _ _ _) (aaH _) (KC s cv m) rfl
 exact eL.of (vs:=λm=>[eV m,.sM (bif cm then cv else cG),.nl .nilIface]) func60 (c:=Ir) (p:=λ_=>True) rfl (.inl rfl) (λ_=>bA.low _ _ _) (λ_=>bA.CL _ _ _) (ER e h hu n j hD) (λ_=>rfl) (λ_=>by kernel_rfl)
end
def aaM:aK Q:=.val 71 _ func71 (by decide) rfl Z 0 (λvs=>match vs with
 | [.agg [.af .u8 32 s],.int .i64 M]=>E (.bP [.aO Z 32 (O M) (eI (cK s)),.sM (dH s (O M))],[],C (A s=32)&&C (0<=M)&&C (M<=1000))
 |_=>Y) λvs v new e=>by
 split at e
 ·rename_i s M
  simp only[Mf,aad,No,aac] at e
  have⟨rfl,rfl,⟨a,b⟩,d⟩:=e
  have k:=OG (M:=O M) a (by omega)
  rwa [Int.toNat_of_nonneg b] at k
 ·cases e
def rfC(l:List (Nat×Bool)):cu:=mk [aaM,wv,ES] [] (uT l)
def y9 l:aq Q (rfC l):=au _ aN.nil _ _
def SE:Code:=aI f101
def sJ(s:pD):Nat->pD:=λk=>iL dc (cK s k)
def rfT(N:Nat)(t:Nat->aE)(a:pD)(M:Nat)(c:Nat->pD)(v:SV)(i:Int):List (Option SV):=ag 52 [(0,.p4 I N t),(1,.ro I .i64 a),(8,.r5 1),(10,.aO Z 32 M (eI c)),(11,.r5 2),(12,v),(13,.t6 i)]
def SF(s cm:pD):List Blk:=[.b [.t5 s],.b [.t5 cG],.b [.t5 cm]]
def ZJ(N:Nat)(t:Nat->aE)(a:pD)(M:Nat)(c k:Nat->pD)(s cm:pD)(n:Nat)(i:Int):St:=⟨rfT N t a M c (.b9 3 32 n n I) i,SF s cm++[.b [.aF 32 n (eI k)]],Z⟩
def za(N:Nat)(t:Nat->aE)(a s:pD):aD (az [0,1,8,10,11,12,13] 3 ((bh Q (rfC []) 60 0 4 (aH SE) ⟨aU f101.ntmps [.p4 I N t,.ro I .i64 a,.sM s],[],Z⟩).x3))=(E (.normal,rfT N t a (O (a.length:Int)) (cK s) (.nl (.slice Y 0 0)) 0,SF s (dH s (O (a.length:Int)))),(aa Z (aa Z (C (A s=32)&&Z&&C ((A a:Int)<=1000))))):=by kernel_rfl
def aid N t ws s:=bu (za N t ws s)
def SG N t ws s:=bz (za N t ws s)
def SH(N:Nat)(t:Nat->aE)(a:pD)(M:Nat)(c k:Nat->pD)(s cm:pD)(n:Nat)(i:Int):aD (az [0,1,8,10,11,12,13] 4 (exec Q (rfC [(25,Z),(43,I)]) 60 0 (aj (aj (aJ 4 SE))) (ZJ N t a M c k s cm n i)))=(E (.normal,(ZJ N t a M c k s cm (n+1) (i64.wrap (i+1))).t,SF s cm++[.b [.aF 32 (n+1) λj=>bF (Nat.ble (j+1) n) (eI k j) [.t5 (iL dc (c (O i)))]]]),(aa (aa (aa (aa (aa (aa (aa (aa (aa (aa (aa (aa Z (C (i<(A a:Int)))) (bC i M)) (Z&&(C (O i<M)&&Z))) (aa Z (C (A (c i.toNat)=32)))) (aa Z (fh (iL dc (c (O i)))))) (bC i (A a))) (C (O i<A a))) (bC (X a (O i) 0) N)) (Z&&(C (O (a.getD i.toNat 0)<N)&&Z))) (aa (C (A (iK (iL dc (c i.toNat)) 9)=32)) (C ((t (O (a.getD i.toNat 0))).key.length=32)))) !!C (iK (iL dc (c (O i))) 9=(t (O (a.getD i.toNat 0))).key)) (aa (aa Z (C (n<=n))) (C (n+1<=2^38))))):=by kernel_rfl
def ayV N t ws M c k s cm n i:=bu (SH N t ws M c k s cm n i)
def aqt N t ws M c k s cm n i:=bz (SH N t ws M c k s cm n i)
def SI(N:Nat)(t:Nat->aE)(a:pD)(M:Nat)(c k:Nat->pD)(s cm:pD)(n:Nat)(i:Int):aD (az [6,7,8,9] 3 (exec Q (rfC [(25,Z),(43,Z)]) 60 0 (aj (aj (aJ 4 SE))) (ZJ N t a M c k s cm n i)))=(E (.ret,ag 52 [(6,.nl (.slice Y 0 0)),(7,.nl (.slice Y 0 0)),(8,.r5 1),(9,.t6 2)],SF s cm),(aa (aa (aa (aa (aa (aa (aa (aa (aa (aa (aa Z (C (i<(A a:Int)))) (bC i M)) (Z&&(C (O i<M)&&Z))) (aa Z (C (A (c i.toNat)=32)))) (aa Z (fh (iL dc (c (O i)))))) (bC i (A a))) (C (O i<A a))) (bC (X a (O i) 0) N)) (Z&&(C (O (a.getD i.toNat 0)<N)&&Z))) (aa (C (A (iK (iL dc (c i.toNat)) 9)=32)) (C ((t (O (a.getD i.toNat 0))).key.length=32)))) !C (iK (iL dc (c (O i))) 9=(t (O (a.getD i.toNat 0))).key))):=by kernel_rfl
def ayW N t ws M c k s cm n i:=bu (SI N t ws M c k s cm n i)
def aqu N t ws M c k s cm n i:=bz (SI N t ws M c k s cm n i)
def SJ(N:Nat)(t:Nat->aE)(a:pD)(M:Nat)(c k:Nat->pD)(s cm:pD)(n:Nat)(i:Int):aD (az [1,8,11,12] 4 (exec Q (rfC [(25,I)]) 60 0 (aj (aj (aJ 4 SE))) (ZJ N t a M c k s cm n i)))=(E (.exit 0,ag 52 [(1,.ro I .i64 a),(8,.r5 1),(11,.r5 2),(12,.b9 3 32 n n I)],SF s cm++[.b [.aF 32 n (eI k)]]),(aa Z !C (i<(A a:Int)))):=by kernel_rfl
def SK(a s cm:pD)(k:Nat->pD)(n:Nat):aD (az [6,7,8,9] 4 (eM Q (rfC []) 60 0 ((aH SE).drop 5) ⟨ag 52 [(1,.ro I .i64 a),(8,.r5 1),(11,.r5 2),(12,.b9 3 32 n n I)],SF s cm++[.b [.aF 32 n (eI k)]],Z⟩))=(E (.ret,ag 52 [(6,.ro I .i64 a),(7,.b9 3 32 n n I),(8,.r5 1),(9,.t6 0)],[.b [.t5 s],.b [.t5 cm],.b [.t5 cm],.b [.aF 32 n (eI k)]]),(Z)):=by kernel_rfl
def OO(t:Nat->aE)(a s:pD)(k:Nat):Bool:=C (Il (cK s k)=(t (O (X a k 0))).key)
def inW(N:Nat)(a:pD):Bool:=(t8 (A a)).all λk=>bC (X a k 0) N
def SL(s:pD)(n:Nat):∀i,i<n+1->PE (bF (Nat.ble (i+1) n) (eI (sJ s) i) [.t5 (iL dc (cK s n))]) (eI (sJ s) i):=qv (sJ s) n
def fzC{e e'}{z len cap n:Nat}{ex g}{b xs:pD}{k x}(p:∀m o,e.z m=E o->e'.z m=E o)(q:e'.n0=e.n0)(H:∀y,VR e (.b9 0 z len cap ex) y->VR e' (.aO Z z len g) y)(d:VR e (.bP [.ro I .i64 b,.b9 0 z len cap ex,.agg [.af .u8 n xs],.t6 k]) x):VR e' (.bP [.ro I .i64 b,.aO Z z len g,.agg [.af .u8 n xs],.t6 k]) x:=by obtain⟨w,⟨f,j,l,⟨y,v,c,⟨r,a,h,u,rfl⟩,rfl⟩,rfl⟩,rfl⟩:=d;exact⟨_,⟨f,_,qf.mono p (by rw[q];exact aar _) l,⟨y,_,H y c,⟨r,a,h,u,rfl⟩,rfl⟩,rfl⟩,rfl⟩
def aie:(aH SE).drop 5≠[]:=by
 intro q;have:A ((aH SE).drop 5)=2:=by kernel_rfl
 rw[q] at this;cases this
section
variable {N:Nat} {t:Nat->aE} {ws s:pD}
def KH(a:A s=32)(c:A ws<=1000) x s'(g:TrL Q Y 0 ((aH (aI f101)).drop 4) (ZJ N t ws (A ws) (cK s) (sJ s) s (dH s (A ws)) 0 ((0:Nat):Int)) x s'):TrL Q Y 0 (aH (aI f101)) ⟨aU f101.ntmps [.p4 I N t,.ro I .i64 ws,.sM s],[],Z⟩ x s':=by have h:=aid N t ws s;have b:=SG N t ws s;rw[aaq] at h;exact TrL.bY (y9 []) 60 4 _ 3 (aaH _) (s1:=⟨rfT N t ws (A ws) (cK s) (.nl (.slice Y 0 0)) 0,SF s (dH s (A ws)),Z⟩) _ h b (by rw[Me a,Me (show(A ws:Int)<=1000 by omega)];rfl) (by decide) rfl (TrL.pre g (bG.uU 12 rfl 32 (eI (sJ s)) I) (by intro q;cases q))
def KI(hT:eo N t)(k:A s=32)(hM:A ws<=1000)(hN:inW N ws=Z){j:Nat}(c:j<A ws)(f:OO t ws s j=Z):
  Tr Q Y 0 (aj (aj (aJ 4 SE))) (ZJ N t ws (A ws) (cK s) (sJ s) s (dH s (A ws)) j (j:Int)) .normal (ZJ N t ws (A ws) (cK s) (sJ s) s (dH s (A ws)) (j+1) ((j+1:Nat):Int)):=by
 have d:=aaB.1 hN j (aaI.2 c)
 have h:O (ws.getD j 0)<N:=by
  have:=d
  simp only[bC,No,aac] at this
  omega
 have e:=ayV N t ws (A ws) (cK s) (sJ s) s (dH s (A ws)) j j
 have g:=aqt N t ws (A ws) (cK s) (sJ s) s (dH s (A ws)) j j
 rw[dm (by omega)] at e
 rw[aaq] at e g
 unfold OO Il at f
 refine Tr.post (s1:=⟨(ZJ N t ws (A ws) (cK s) (sJ s) s (dH s (A ws)) (j+1) (j+1:Int)).t,SF s (dH s (A ws))++[.b [.aF 32 (j+1) λi=>bF (Nat.ble (i+1) j) (eI (sJ s) i) [.t5 (iL dc (cK s j))]]],Z⟩) (Tr.bg (y9 [(25,Z),(43,I)]) 60 _ 4 (aaH _) _ e g ?_) (bG.tD (show Ef [.b [.t5 s],.b [.t5 cG],.b [.t5 (dH s (A ws))],.b [.aF 32 (j+1) λi=>bF (Nat.ble (i+1) j) (eI (sJ s) i) [.t5 (iL dc (cK s j))]]] [.b [.t5 s],.b [.t5 cG],.b [.t5 (dH s (A ws))],.b [.aF 32 (j+1) (eI (sJ s))]] from⟨PE.refl _,PE.refl _,PE.refl _,PE.aF (SL s j),trivial⟩))
 rw[g8 c,bW c,Me c,Me (lP k j),yu,d,Me h,Me (uW _ _),Me (hT.key _ h),f,Me (aar j),Me (by omega)]
 rfl
def Iu(l:eo N t)(a:A s=32)(d:A ws<=1000)(hN:inW N ws=Z)(m:(t8 (A ws)).all (OO t ws s)=Z):
  ak Q 101 [.p4 I N t,.ro I .i64 ws,.sM s] [] (.bP [.ro I .i64 ws,.aO Z 32 (A ws) (eI (sJ s)),.sM (dH s (A ws)),.t6 0]) []:=by
 refine ak.uR (v:=.bP [.ro I .i64 ws,.b9 0 32 (A ws) (A ws) I,.sM (dH s (A ws)),.t6 0]) (aar _) (λe e' x n k H f=>fzC n k H f) ?_;refine ak.yY (v:=.bP [.ro I .i64 ws,.b9 3 32 (A ws) (A ws) I,.sM (dH s (A ws)),.t6 0]) (h1:=[.b [.t5 s],.b [.t5 (dH s (A ws))],.b [.t5 (dH s (A ws))],.b [.aF 32 (A ws) (eI (sJ s))]]) [3] ?_ rfl;refine ak.sW (h:=[]) func101 rfl 4 0 (λj=>ZJ N t ws (A ws) (cK s) (sJ s) s (dH s (A ws)) j (j:Int)) (A ws)
  (λy s' g=>KH a d y s' g) (by decide) rfl
  (λj c=>KI l a d hN c (aaB.1 m j (aaI.2 c))) (sE:=⟨ag 52 [(1,.ro I .i64 ws),(8,.r5 1),(11,.r5 2),(12,.b9 3 32 (A ws) (A ws) I)],SF s (dH s (A ws))++[.b [.aF 32 (A ws) (eI (sJ s))]],Z⟩) (s':=⟨ag 52 [(6,.ro I .i64 ws),(7,.b9 3 32 (A ws) (A ws) I),(8,.r5 1),(9,.t6 0)],[.b [.t5 s],.b [.t5 (dH s (A ws))],.b [.t5 (dH s (A ws))],.b [.aF 32 (A ws) (eI (sJ s))]],Z⟩) (x:=.ret) (v:=[.ro I .i64 ws,.b9 3 32 (A ws) (A ws) I,.sM (dH s (A ws)),.t6 0]) ?_ ?_ (.inl rfl) rfl
 ·exact Tr.i7 (y9 [(25,I)]) (aaH _) (SJ N t ws (A ws) (cK s) (sJ s) s (dH s (A ws)) (A ws) (A ws)) (by rw[gV (aar _)];rfl)
 ·exact TrL.i8 (y9 []) (aaH _) (SK ws s (dH s (A ws)) (sJ s) (A ws)) rfl aie
def ET(c:eo N t)(b:A s=32)(k:A ws<=1000)(hN:inW N ws=Z)(hq:(t8 (A ws)).all (OO t ws s)=I):
  ak Q 101 [.p4 I N t,.ro I .i64 ws,.sM s] [] (.bP [dx,dx,.sM cG,.t6 2]) []:=by
 cases d:cV (OO t ws s) (A ws) with
 |none=>
  have:=aaB.2 λi hi=>dz d i (aaI.1 hi)
  rw[hq] at this;cases this
 |some i=>
  have⟨h1,h2,h3⟩:=dr d
  have f:=aaB.1 hN i (aaI.2 h1)
  have m:O (ws.getD i 0)<N:=by
   have:=f
   simp only[bC,No,aac] at this
   omega
  have e:=ayW N t ws (A ws) (cK s) (sJ s) s (dH s (A ws)) i i
  have l:=aqu N t ws (A ws) (cK s) (sJ s) s (dH s (A ws)) i i
  rw[aaq] at l
  unfold OO Il at h2
  refine ak.yY (v:=.bP [dx,dx,.sM cG,.t6 2]) (h1:=SF s (dH s (A ws))) [] ?_ rfl
  refine ak.KJ (h:=[]) func101 rfl 4 0 (λj=>ZJ N t ws (A ws) (cK s) (sJ s) s (dH s (A ws)) j (j:Int)) i
   (λy s' g=>KH b k y s' g) (by decide) rfl (λj hj=>KI c b k hN (by omega) (h3 j hj)) (sF:=⟨ag 52 [(6,dx),(7,dx),(8,.r5 1),(9,.t6 2)],SF s (dH s (A ws)),Z⟩) (vF:=[dx,dx,.sM cG,.t6 2]) ?_ rfl
  refine Tr.bg (y9 [(25,Z),(43,Z)]) 60 _ 3 (aaH _) _ e l ?_
  rw[g8 h1,bW h1,Me h1,Me (lP b i),yu,f,Me m,Me (uW _ _),Me (c.key _ m),h2]
  rfl
end
def aqx(g:Bool):aK Q:=.val 101 _ func101 (by decide) rfl Z 0 (λvs=>match vs with
 | [.aO I 99 N t,.ro I .i64 ws,.agg [.af .u8 32 s]]=>match g with
  |true=>E (.bP [.ro I .i64 ws,.aO Z 32 (A ws) (eI (sJ s)),.sM (dH s (A ws)),.t6 0],[],cX N t&&C (N<=71)&&C (A s=32)&&C (A ws<=1000)&&inW N ws&&((t8 (A ws)).all (OO (ai t) ws s)==Z))
  |false=>E (.bP [dx,dx,.sM cG,.t6 2],[],cX N t&&C (N<=71)&&C (A s=32)&&C (A ws<=1000)&&inW N ws&&((t8 (A ws)).all (OO (ai t) ws s)==I))
 |_=>Y) λvs v new e=>by
 split at e
 ·split at e
  ·simp only[Mf,aad,No,aac,afP] at e
   have⟨rfl,rfl,⟨⟨⟨⟨b,f⟩,c⟩,h4⟩,d⟩,h6⟩:=e
   exact ak.conv (Iu (eo.of b f) c h4 d h6) ⟨VE.kM b,VE.refl _,VE.refl _,trivial⟩ trivial (VE.refl _) trivial
  ·simp only[Mf,aad,No,aac,afP] at e
   have⟨rfl,rfl,⟨⟨⟨⟨b,f⟩,c⟩,h4⟩,d⟩,h6⟩:=e
   exact ak.conv (ET (eo.of b f) c h4 d h6) ⟨VE.kM b,VE.refl _,VE.refl _,trivial⟩ trivial (VE.refl _) trivial
 ·cases e
def lwQ(N:Nat)(ws:pD)(own:Int):Bool:=bn.any λn=>C (aY N=(n:Int))&&C (0<=own)&&C (own<n)&&(t8 (A ws)).all λk=>Tr.bf (X ws k 0) n
def aaN:aK Q:=.val 100 _ func100 (by decide) rfl Z 0 (λvs=>match vs with
 | [.aO I 99 N t,.ro I .i64 ws,.int .i64 own]=>E (.t6 (lwV own ws),[],cX N t&&C (N<=71)&&C (A ws<=1000)&&lwQ N ws own)
 |_=>Y) λvs v new e=>by
 split at e
 ·rename_i N t ws own
  simp only[Mf,aad,No,aac] at e
  have⟨rfl,rfl,⟨⟨c,h2⟩,g⟩,b⟩:=e
  obtain⟨n,d,b⟩:=afJ.1 b
  simp only[No,aac] at b
  obtain⟨⟨⟨f,h⟩,g3⟩,g4⟩:=b
  obtain⟨o,rfl⟩:=ac7 h
  exact ak.conv (OJ d f (by omega) (by omega) g λi j=>aaB.1 g4 i (aaI.2 j)) ⟨VE.kM c,VE.refl _,VE.refl _,trivial⟩ trivial (VE.refl _) trivial
 ·cases e
def CU(b:Nat)(u g:Bool)(l:List (Nat×Bool)):cu:=mk [afF b,CV u,aaN,aqx g] [] (uT l)
def m9(b:Nat) u g(l:List (Nat×Bool)):aq Q (CU b u g l):=au _ aN.nil _ _
abbrev tE(n:Int):SV:=.bP [dx,dx,.sM cG,.t6 n]
def ayZ(N:Nat)(t:Nat->aE)(i own:Int)(s:pD):(aV Q (CU 1 Z Z []) 60 f63 [.p4 I N t,.t6 i,.t6 own,.sM s] []).v3=E (tE 3,aa Z (aa Z ((cX N λi=>ah (aA t i))&&C (N<=71)&&bq N (ai λi=>ah (aA t i))==eH N (ai λi=>ah (aA t i))&&iJ N (ai λi=>ah (aA t i)) i==1))):=by kernel_rfl
def ay0(N:Nat)(t:Nat->aE)(i own:Int)(s:pD):(aV Q (CU 2 Z Z []) 60 f63 [.p4 I N t,.t6 i,.t6 own,.sM s] []).v3=E (tE 9,aa Z (aa Z ((cX N λi=>ah (aA t i))&&C (N<=71)&&bq N (ai λi=>ah (aA t i))==eH N (ai λi=>ah (aA t i))&&iJ N (ai λi=>ah (aA t i)) i==2))):=by kernel_rfl
def ay1(N:Nat)(t:Nat->aE)(i own:Int)(s:pD):(aV Q (CU 0 I Z []) 60 f63 [.p4 I N t,.t6 i,.t6 own,.sM s] []).v3=E (tE 9,aa (aa Z (aa Z ((cX N λi=>ah (aA t i))&&C (N<=71)&&bq N (ai λi=>ah (aA t i))==eH N (ai λi=>ah (aA t i))&&iJ N (ai λi=>ah (aA t i)) i==0))) (aa Z ((cX N λi=>ah (aA t i))&&lO N (ai λi=>ah (aA t i)) own==I))):=by kernel_rfl
def ay2(N:Nat)(t:Nat->aE)(i own:Int)(s:pD):(aV Q (CU 0 Z Z [(36,Z)]) 60 f63 [.p4 I N t,.t6 i,.t6 own,.sM s] []).v3=E (tE 9,aa (aa (aa Z (aa Z ((cX N λi=>ah (aA t i))&&C (N<=71)&&bq N (ai λi=>ah (aA t i))==eH N (ai λi=>ah (aA t i))&&iJ N (ai λi=>ah (aA t i)) i==0))) (aa Z ((cX N λi=>ah (aA t i))&&lO N (ai λi=>ah (aA t i)) own==Z))) (own==i)):=by kernel_rfl
def ay3(N:Nat)(t:Nat->aE)(i own:Int)(s:pD):(aV Q (CU 0 Z Z [(36,I),(44,Z)]) 60 f63 [.p4 I N t,.t6 i,.t6 own,.sM s] []).v3=E (tE 10,aa (aa (aa (aa (aa Z (aa Z ((cX N λi=>ah (aA t i))&&C (N<=71)&&bq N (ai λi=>ah (aA t i))==eH N (ai λi=>ah (aA t i))&&iJ N (ai λi=>ah (aA t i)) i==0))) (aa Z ((cX N λi=>ah (aA t i))&&lO N (ai λi=>ah (aA t i)) own==Z))) !own==i) (aa Z ((cX N λi=>ah (aA t i))&&C (N<=71)&&C (A (fG (λx=>x.fst) N (ai λi=>ah (aA t i)) i)<=1000)&&lwQ N (fG (λx=>x.fst) N (ai λi=>ah (aA t i)) i) own))) (C (lwV own (fG (λx=>x.fst) N (ai λi=>ah (aA t i)) i)<0))):=by kernel_rfl
def Iv:Code:=aI f63
def SM(N:Nat)(t:Nat->aE)(ws:pD)(iv:Int):List (Option SV):=ag 56 [(0,.p4 I N t),(7,.r5 0),(10,.r5 1),(12,.ro Z .i64 ws),(16,.t6 iv)]
def zb(N:Nat)(t:Nat->aE)(i own:Int)(s:pD):aD (az [0,7,10,12,16] 2 ((bh Q (CU 0 Z Z [(36,I),(44,I)]) 60 0 9 (aH Iv) ⟨aU f63.ntmps [.p4 I N t,.t6 i,.t6 own,.sM s],[],Z⟩).x3))=(E (.normal,SM N t (fG (·.1) N (ai λi=>ah (aA t i)) i) (lwV own (fG (·.1) N (ai λi=>ah (aA t i)) i)),[.b [.t5 s],.b [.t5 cG]]),(aa (aa (aa (aa (aa Z (aa Z ((cX N λi=>ah (aA t i))&&C (N<=71)&&bq N (ai λi=>ah (aA t i))==eH N (ai λi=>ah (aA t i))&&iJ N (ai λi=>ah (aA t i)) i==0))) (aa Z ((cX N λi=>ah (aA t i))&&lO N (ai λi=>ah (aA t i)) own==Z))) !own==i) (aa Z ((cX N λi=>ah (aA t i))&&C (N<=71)&&C (A (fG (λx=>x.fst) N (ai λi=>ah (aA t i)) i)<=1000)&&lwQ N (fG (λx=>x.fst) N (ai λi=>ah (aA t i)) i) own))) !C (lwV own (fG (λx=>x.fst) N (ai λi=>ah (aA t i)) i)<0))):=by kernel_rfl
def aif N t i own s:=bu (zb N t i own s)
def SN N t i own s:=bz (zb N t i own s)
def SO(N:Nat)(t:Nat->aE)(ws:pD)(iv:Int)(s:pD):aD (az [8,9,10,11] 2 (eM Q (CU 0 Z Z []) 60 0 ((aH Iv).drop 9) ⟨SM N t ws iv,[.b [.t5 s],.b [.t5 cG]],Z⟩))=(E (.ret,ag 56 [(8,.ro I .i64 (ws.drop (O iv))),(9,.aO Z 32 (A (ws.drop (O iv))) (eI (sJ s))),(10,.r5 1),(11,.t6 0)],[.b [.t5 s],.b [.t5 (dH s (A (ws.drop (O iv))))]]),(aa (aa Z (aa Z (aa Z (C (0<=iv)&&C (iv<=(A ws:Int)))))) (aa Z ((cX N λi=>ah (aA t i))&&C (N<=71)&&C (A s=32)&&C (A (qE ws (E (SV.int IntKind.i64 iv)) Y (O iv) ws.length)<=1000)&&inW N (qE ws (E (SV.int IntKind.i64 iv)) Y (O iv) (A ws))&&(t8 (A (qE ws (E (SV.int IntKind.i64 iv)) Y (O iv) ws.length))).all (OO (ai λi=>ah (aA t i)) (qE ws (E (SV.int IntKind.i64 iv)) Y (O iv) (A ws)) s)==Z)))):=by kernel_rfl
def ay4 N t ws iv s:=bu (SO N t ws iv s)
def aqy N t ws iv s:=bz (SO N t ws iv s)
def SP(N:Nat)(t:Nat->aE)(ws:pD)(iv:Int)(s:pD):aD (az [8,9,10,11] 2 (eM Q (CU 0 Z I []) 60 0 ((aH Iv).drop 9) ⟨SM N t ws iv,[.b [.t5 s],.b [.t5 cG]],Z⟩))=(E (.ret,ag 56 [(8,dx),(9,dx),(10,.r5 1),(11,.t6 2)],[.b [.t5 s],.b [.t5 cG]]),(aa (aa Z (aa Z (aa Z (C (0<=iv)&&C (iv<=(A ws:Int)))))) (aa Z ((cX N λi=>ah (aA t i))&&C (N<=71)&&C (A s=32)&&C (A (qE ws (E (SV.int IntKind.i64 iv)) Y (O iv) ws.length)<=1000)&&inW N (qE ws (E (SV.int IntKind.i64 iv)) Y (O iv) (A ws))&&(t8 (A (qE ws (E (SV.int IntKind.i64 iv)) Y (O iv) ws.length))).all (OO (ai λi=>ah (aA t i)) (qE ws (E (SV.int IntKind.i64 iv)) Y (O iv) (A ws)) s)==I)))):=by kernel_rfl
