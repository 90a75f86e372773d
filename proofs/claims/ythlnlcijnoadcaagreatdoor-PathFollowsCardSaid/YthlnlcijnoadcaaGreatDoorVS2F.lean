/- This file proves lemmas for the last one. Conditions: those in them. -/
import Derived.Test.YthlnlcijnoadcaaGreatDoorVFoD
import Derived.Laws.Externs
import Derived.Lib.EndianBits
noncomputable section
open Bool renaming true->Z,false->I
open Option renaming some->E,none->Y
open Decidable renaming decide->C
open List renaming length->A,getD->X,replicate->t9,range->t8
open Int renaming toNat->O
open Go.Proofs.Tryz
open Go.Proofs.Tryz renaming prog->Q
open Go.IntKind (i64)
set_option linter.all false
set_option maxRecDepth 100000
namespace Go.Sy
section
variable {P:Program} {ro:Option Nat} {k:Nat} {ι:Type}
def yx:Op->Bool
 | .move _=>Z
 | .assign _=>Z
 | .load _ _=>Z
 | .store _ _ _=>Z
 | .extract _ _=>Z
 | .alloc _=>Z
 | .slice _ _ _ _ _=>Z
 |_=>I
def ady{G G' eZ k k' j t h o}(a:yx o.op=Z):oL P G eZ k t h j o=oL P G' eZ k' t h j o:=by unfold oL;generalize o.op=op at a ⊢;cases op<;>first|rfl|cases a
def xh{Γ G G' k k' n i ops m o s}(a:yx o.op=Z):eW P Γ G k ops n m i o s=eW P Γ G' k' ops n m i o s:=by
 have c:uX Γ o=I:=by unfold uX BA;generalize o.op=op at a ⊢;cases op<;>first|rfl|cases a
 unfold eW IQ;simp[c,λ(eZ:Tmp->Bool)(j:Nat)(t:List (Option SV))(h:List Blk)=>ady (P:=P) (G:=G) (G':=G') (eZ:=eZ) (k:=k) (k':=k') (j:=j) (t:=t) (h:=h) a]
def Qm{nn ops Q}(hd:∀(j:Nat)(y:Oper),ops.toList[j]?=E y->∀e∈y.after.toList,Region.binds .any e=Z->e.on<j)(Φ:List Nat->Act->World->Prop)(h0:∀a w,Φ [] a w->Q .normal a w)
  (hs:∀(pre:List Nat)(i:Nat)(post:List Nat)(o:Oper)(a:Act)(w:World),ops.toList[i]?=E o->(pre++i::post).Nodup->(∀j∈pre,j<i/\(X (fA ops.toList []) i 0).testBit j=I)->Φ (pre++i::post) a w->wpOpIn (wF ro) nn P ops Q i (Φ (pre++post)) a w):
  ∀f(b:Array Bool),b.size=ops.size->I8 ops.toList b->A ((t8 ops.size).filter λi=>!b.getD i Z)=f->∀(a:Act)(w:World),Φ ((t8 ops.size).filter λi=>!b.getD i Z) a w->wpAnyIn (wF ro) nn P .any ops Q f b a w:=by
 have zW:∀(b:Array Bool)(i:Nat),i∈Region.ready .any ops b->i∈(t8 ops.size).filter λi=>!b.getD i Z:=λlisted i v=>by have⟨h1,o,u,_⟩:=mem_ready.1 v;rw[List.mem_filter,aaI];exact⟨(abE.1 u).1,by simp[h1,aiW]⟩
 intro f;induction f with
 |zero=>
  intro b _ _ d a w z
  have tW:=abJ.1 d
  rw[tW] at z
  refine⟨?_,h0 a w z⟩
  cases L:Region.ready .any ops b with
  |nil=>rfl
  |cons i l=>
   have:=zW b i (by rw[L];simp)
   rw[tW] at this
   cases this
 |succ f ih=>
  intro b n mX d a w z
  refine⟨λtW=>?_,λi v=>?_⟩
  ·exfalso
   cases S:(t8 ops.size).filter λi=>!b.getD i Z with
   |nil=>rw[S] at d;cases d
   |cons F l=>
    have N:F∈(t8 ops.size).filter λi=>!b.getD i Z:=by rw[S];simp
    rw[List.mem_filter,aaI] at N
    have t:((t8 ops.size).filter λi=>!b.getD i Z).Pairwise (· < ·):=List.Pairwise.filter _ List.pairwise_lt_range
    have B:∀j,j<F->b.getD j I=Z:=λj m=>by
     cases K:b.getD j Z with
     |true=>
      have T:j<b.size:=by rw[n];omega
      simp[T] at K ⊢;exact K
     |false=>
      have D:j∈(t8 ops.size).filter λi=>!b.getD i Z:=by
       rw[List.mem_filter,aaI];exact⟨by omega,by simp[K,aiW]⟩
      rw[S] at D t
      rcases af7.1 D with rfl|D
      ·omega
      ·have:=(List.pairwise_cons.1 t).1 j D;omega
    have u:=Array.getElem?_eq_getElem N.1
    have:F∈Region.ready .any ops b:=by
     refine mem_ready.2 ⟨by simpa using N.2,_,u,λe G r=>B e.on ?_⟩
     exact hd F _ (by rw[Array.getElem?_toList];exact u) e (by simpa using G) r
    rw[tW] at this
    cases this
  ·have⟨ad,o,u,p⟩:=mem_ready.1 v
   have Vd:=zW b i v
   have⟨pre,post,c⟩:=List.append_of_mem Vd
   have t:((t8 ops.size).filter λi=>!b.getD i Z).Pairwise (· < ·):=List.Pairwise.filter _ List.pairwise_lt_range
   rw[c] at t z
   have wY:∀j∈pre,j<i:=λj m=>(List.pairwise_append.1 t).2.2 j m i (by simp)
   have Dq:∀j∈post,i<j:=λj m=>(List.pairwise_cons.1 (List.pairwise_append.1 t).2.1).1 j m
   have J:ops.toList[i]?=E o:=by simpa using u
   have H:=zS ops.toList [] [] rfl (λi o v=>by simp at v)
   have M:A (fA ops.toList [])=A ops.toList:=by rw[pg];simp
   have V:∀j∈pre,j<i/\(X (fA ops.toList []) i 0).testBit j=I:=λj m=>⟨wY j m,by
    cases r:((fA ops.toList []).getD i 0).testBit j with
    |false=>rfl
    |true=>
     exfalso
     have h2:=xL (by simpa using H) M mX i i o (aar _) J (λe G r=>p e (by simpa using G) r) j r
     have s:j∈(t8 ops.size).filter λi=>!b.getD i Z:=by rw[c];simp[m]
     rw[List.mem_filter] at s
     have T:j<b.size:=by rw[n];exact aaI.1 s.1
     have h3:=s.2
     simp[T] at h2 h3
     rw[h2] at h3
     cases h3⟩
   refine wpOpIn_mono (λa w W=>?_) (hs pre i post o a w J (t.imp λh=>Nat.ne_of_lt h) V z)
   have Ve:(t8 ops.size).filter (λj=>!(b.setIfInBounds i Z).getD j Z)=pre++post:=by
    have e1:∀j,(b.setIfInBounds i Z).getD j Z=(b.getD j Z||C (j=i)):=λj=>by
     by_cases g:i=j
     ·subst g
      have ab:i<b.size:=by rw[n];exact(abE.1 u).1
      simp[ab]
     ·rw[getD_set_ne Z g]
      have:¬j=i:=λq=>g q.symm
      simp[this]
    have e2:(t8 ops.size).filter (λj=>!(b.setIfInBounds i Z).getD j Z)=((t8 ops.size).filter λj=>!b.getD j Z).filter λj=>C (j≠i):=by
     rw[List.filter_filter]
     apply List.filter_congr
     intro j _
     rw[e1 j]
     by_cases U:j=i<;>simp[U]
    rw[e2,c,List.filter_append,List.filter_cons]
    have e3:pre.filter (λj=>C (j≠i))=pre:=ajR.2 λj m=>by have:=wY j m;simp;omega
    have e4:post.filter (λj=>C (j≠i))=post:=ajR.2 λj m=>by have:=Dq j m;simp;omega
    rw[e3,e4]
    simp
   refine ih (b.setIfInBounds i Z) (by simp[n]) ?_ ?_ a w (by rw[Ve];exact W)
   ·intro j x hx Vf e uD r
    by_cases g:i=j
    ·subst g
     rw[J] at hx;cases hx
     exact getD_set_true (p e (by simpa using uD) r)
    ·rw[getD_set_ne I g] at Vf
     exact getD_set_true (mX j x hx Vf e uD r)
   ·rw[Ve]
    rw[c] at d
    simp at d ⊢
    omega
def fu.aqo{Γ G0}{G:ι->ct}(ab:o7 P G0)(hP:∀m,me Γ.pf (G m))(hm:P.follows .mixedOrders=Z){ops s}{S:ι->St}{fs:ι->List Fp}{G':ι->HP}(id c:Nat)
  (W:∀i o,i≠c->ops.toList[i]?=E o->yx o.op=Z)(al:c<ops.size)(hd:∀m,oM P Γ (A s.h) (fs m) ops=Z)
  (hr:∀m,y7 P Γ (G m) (A s.h) ops (A s.h) (fA ops.toList []) (t8 ops.size) ⟨s.t,s.h++t9 (kN Γ.nb ops.toList) .gap,s.ob⟩=E (S m,fs m))(cY:∀m,(S m).ob=Z)(m0:ι)
  (hc:∀(s1:St)(F:ι->St)(o:Oper),ops.toList[c]?=E o->(∀m,eW P Γ (G m) (A s.h) ops (A s.h) (fA ops.toList []) c o s1=E (F m,mZ (fs m) c))->(∀m,(F m).ob=Z)->∀(B:dj)(e:cw)(w:World)(t':List Value)(d:List Deferred)(Q:Exit->Act->World->Prop)(nn:Nat)(K:Act->World->Prop),B.k<=k->TR e s1.t t'->bM B e s1.h w->
   (∀m e' w' af,TR e' (F m).t af->bM B e' (F m).h w'->G' m B e' w'->K ⟨⟨af⟩,n6 e'.m++d⟩ w')->wpOpIn (wF ro) nn P ops Q c K ⟨⟨t'⟩,n6 e.m++d⟩ w)
  (hK:∀m,fT (G' m)):fu P ro k (.region id ops Z) s TH .normal S G':=by
 intro B e w t' d Q nn hB hl R _ hQ;refine wpIn_region_any hm ?_;have J:(t8 ops.size).filter (λi=>!(Array.replicate ops.size I).getD i Z)=t8 ops.size:=ajR.2 λi hi=>by
  rw[aaI] at hi;simp[hi]
 have ae:=λm=>by
  have⟨q1,q2⟩:=zV (φ:=mZ (fs m)) _ _ _ _ (hr m)
  refine q2 λr i M=>?_
  have Q3:=(aaR.1 M).1
  have OD:r<ops.size:=by simpa using Q3
  rw[ajq OD] at M
  cases M
  have am:r<A (fs m):=by rw[q1];exact Q3
  unfold mZ
  rw[aaQ am]
 have ad:∀m(j:Nat)(y:Oper),ops.toList[j]?=E y->(∀e∈y.after.toList,Region.binds .any e=Z->e.on<j)/\
   ∀(i:Nat)(x:Oper),i<j->ops.toList[i]?=E x->(X (fA ops.toList []) j 0).testBit i=Z\/Fk P Γ (A s.h) (fs m) ops i x j y=Z:=by
  intro m j y hy
  have hd:=hd m
  unfold oM at hd
  rw[aaB] at hd
  have f:(y,j)∈ops.toList.zipIdx:=by
   rw[List.mk_mem_zipIdx_iff_getElem?];exact hy
  have v:=hd _ f
  simp only[No,aaB,agV,af9,aac] at v
  refine⟨λe he hb=>(v.1 e he).resolve_left (by simp[hb]),λi x ao hx=>?_⟩
  have z:(x,i)∈ops.toList.zipIdx.take j:=by
   rw[ajl]
   refine⟨i,?_⟩
   rw[afY ao,List.getElem?_zipIdx,hx]
   simp
  exact v.2 _ z
 let Φ:List Nat->Act->World->Prop:=λrem a w=>∃e t',a=⟨⟨t'⟩,n6 e.m++d⟩/\
  ((c∈rem/\∃s1,TR e s1.t t'/\bM B e s1.h w/\∀m,tZ P Γ (G m) (A s.h) ops (A s.h) (fA ops.toList []) (mZ (fs m)) rem s1 (S m))\/
   (c ∉ rem/\∃m s1,TR e s1.t t'/\bM B e s1.h w/\G' m B e w/\tZ P Γ (G m) (A s.h) ops (A s.h) (fA ops.toList []) (mZ (fs m)) rem s1 (S m)))
 refine Qm (λj y hy=>(ad m0 j y hy).1) Φ ?_ ?_ ops.size (Array.replicate ops.size I) (by simp) ?_ (by rw[J];simp) _ _ ?_
 ·rintro a w1 ⟨e1,t1,rfl,⟨h,_⟩|⟨_,m,s1,V,n,g3,g4⟩⟩
  ·cases h
  ·rw[tZ] at g4
   subst g4
   exact hQ m e1 w1 t1 V n g3
 ·rintro pre i post o a w1 N tj D ⟨e1,t1,rfl,UW⟩
  have LA:∀m,∀j∈pre,j<i/\∀x,ops.toList[j]?=E x->(X (fA ops.toList []) i 0).testBit j=I/\x.apart ops o=Z/\uQ P Γ ops.toList (A s.h) j x (mZ (fs m) j) i o (mZ (fs m) i)=Z:=λm j hj=>⟨(D j hj).1,λx hx=>by
   refine⟨(D j hj).2,?_⟩
   rcases(ad m i o N).2 j x (D j hj).1 hx with v|v
   ·rw[(D j hj).2] at v;cases v
   ·unfold Fk at v
    rw[No] at v
    exact v⟩
  have ac:ops[i]?=E o:=by simpa using N
  rcases UW with⟨an,s1,V,n,g3⟩|⟨u,m,s1,V,n,g3,g4⟩
  ·have H:=λm=>pE (hP m) N pre post s1 (S m) (LA m) (g3 m)
   by_cases l:i=c
   ·subst l
    have hF:∃F:ι->St,∀m,eW P Γ (G m) (A s.h) ops (A s.h) (fA ops.toList []) i o s1=E (F m,mZ (fs m) i)/\tZ P Γ (G m) (A s.h) ops (A s.h) (fA ops.toList []) (mZ (fs m)) (pre++post) (F m) (S m):=⟨λm=>Classical.choose (H m),λm=>Classical.choose_spec (H m)⟩
    have⟨F,hF⟩:=hF
    refine hc s1 F o N (λm=>(hF m).1) (λm=>vu _ _ _ (hF m).2 (cY m)) B e1 w1 t1 d Q nn _ hB V n λm e2 w2 t2 a b g=>⟨e2,t2,rfl,.inr ⟨?_,m,F m,a,b,g,(hF m).2⟩⟩
    intro f
    rw[List.nodup_append] at tj
    rcases agl.1 f with h|h
    ·exact tj.2.2 i h i (by simp) rfl
    ·exact(ajH.1 tj.2.1).1 h
   ·have Lm:=W i o l N
    have⟨s2,z,_⟩:=H m0
    have Lw:∀m,tZ P Γ (G m) (A s.h) ops (A s.h) (fA ops.toList []) (mZ (fs m)) (pre++post) s2 (S m):=λm=>by
     have⟨s3,U,h4⟩:=H m
     rw[xh Lm,z] at U
     simp[Mf,aad] at U
     rw[U.1];exact h4
    have PB:=vu _ _ _ (Lw m0) (cY m0)
    have z:=z
    rw[xh Lm] at z
    refine q8 ab ac z PB (λq p hq=>Nat.lt_of_lt_of_le (n.kr q p hq) n.iT) V n λe2 w2 t2 L lq R2=>⟨e2,t2,by rw[L],.inl ⟨?_,s2,lq,R2,Lw⟩⟩
    rcases agl.1 an with h|h
    ·exact agl.2 (.inl h)
    ·exact agl.2 (.inr ((af7.1 h).resolve_left λq=>l q.symm))
  ·have l:i≠c:=λq=>u (by rw[<-q];simp)
   have Lm:=W i o l N
   have⟨s2,z,U⟩:=pE (hP m) N pre post s1 (S m) (LA m) g4
   have PB:=vu _ _ _ U (cY m)
   rw[xh Lm] at z
   refine q8 ab ac z PB (B:=fC e1 s1.h w1) (e:=e1.uO s1.h) (λq p hq=>n.dom q p hq) (V.mono (jH e1 s1.h)) n.self λe2 w2 t2 L lq R2=>⟨{e2 with m:=e2.m++e1.m},t2,?_,.inr ⟨?_,m,s2,TR.mono (e:=e2) (e':={e2 with m:=e2.m++e1.m}) ⟨λ_ _ h=>h,λ_ _ h=>h,aar _⟩ lq,n.y8 R2,hK m B e1 s1.h w1 e2 s2.h w2 _ n g3 R2,U⟩⟩
   ·have h0:e2.m=[]:=L
    rw[h0];rfl
   ·intro f
    rcases agl.1 f with h|h
    ·exact u (agl.2 (.inl h))
    ·exact u (agl.2 (.inr (List.mem_cons_of_mem _ h)))
 ·intro j o ho Vf
  rw[show(Array.replicate ops.size I).getD j I=I from by rw[Array.getD_eq_getD_getElem?,Array.getElem?_replicate];split<;>rfl] at Vf
  cases Vf
 ·rw[J]
  exact⟨e,t',rfl,.inl ⟨aaI.2 al,⟨s.t,s.h++t9 (kN Γ.nb ops.toList) .gap,s.ob⟩,hl,(R.FH _).drawn _,ae⟩⟩
end
end Go.Sy
namespace Go.Proofs.YthlnlcijnoadcaaGreatDoor
namespace Sh
open Sy
abbrev W(n:Int):Int:=IntKind.u64.wrap n
def W0(n:Int):Bool:=C (0<=W n)
def cL(n:Int):IntKind.u64.wrap n=n%18446744073709551616:=by simp[IntKind.wrap,IntKind.signed,IntKind.bits]
def Mo(n:Int):W0 n=Z:=by unfold W0 W;rw[cL];exact Me (Int.emod_nonneg _ (by decide))
def ru:aq Q (mk (P:=Q) [] []):=au _ aN.nil _ _
def aM(n:Int)(a: -9223372036854775808<=n)(h1:n<9223372036854775808):i64.wrap n=n:=IntWalk.i64_in n (by omega)
def dB{i:Int}{n:Nat}(a:0<=i)(h1:i<n):bC i n=Z:=by unfold bC;simp[No,aac];omega
end Sh
end Go.Proofs.YthlnlcijnoadcaaGreatDoor
namespace Go.Sy
variable {P:Program}
def ak.empty{f args h h1}(g:ak P f args h (.nl (.slice Y 0 0)) h1) K ex wh:ak P f args h (.sl (A h1) 0 0 1 0 0 ex wh) (h1++[.b [.af K 0 []]]):=
 g.post λB e w n _ d R=>⟨e,rfl,⟨d.1,λi v l a c=>by cases i with
  |zero=>
   simp[afZ,Mf] at a;subst a;have h1:=d.2 0 _ l rfl c
   exact .inl ⟨rfl,rfl,Y,h1⟩
  |succ i=>simp at a⟩,by
  have:=R.nothing (ps:=[.af K 0 []]) (.inl rfl) rfl
  unfold cO at this
  rw[ae8 rfl] at this
  exact this⟩
def ak.frozen{f args K l N ex wh}(g:ak P f args [] (.sl 0 0 0 1 N N ex wh) [.b [.af K N l]])(c:A l=N):ak P f args [] (.ro Z K l) []:=by
 subst c;cases wh
 ·have k:=g.fz (u:=.ro Z K ((l.drop 0).take (A l))) (p:=aa (C (A l=A l)) (([E (SV.sl 0 0 0 1 (A l) (A l) ex I)]:List (Option SV)).all λo=>match o with|some v=>qp ..|none=>Z)) 0 0 (aar _) (aar _) rfl (by simp[qp,aa]);rw[agE,agW] at k;exact k
 ·exact g.fz (h2:=[]) (p:=aa (C (A l=A l)) (([E (SV.sl 0 0 0 1 (A l) (A l) ex Z)]:List (Option SV)).all λo=>match o with|some v=>qp ..|none=>Z)) 0 0 (aar _) (aar _) rfl (by simp[qp,aa])
end Go.Sy
namespace Go.Proofs.YthlnlcijnoadcaaGreatDoor
namespace Sh
open Sy
def gC b:=mk (P:=Q) [] [] λi=>if i=6 then E I else if i=16 then E b else Y
def agB b:aq Q (gC b):=au _ aN.nil _ _
def gI(n:Int):Int:=i64.wrap (n-i64.wrap (0-((0:Nat):Int)))
def agC:List SV->Option (SV×List Blk×Bool)
 | [.nl (.slice Y 0 0),.int .i64 n]=>E (.sl 0 0 0 1 0 (O n) I I,[.b [.af .u8 (O n) (t9 (O n) 0)]],C (0<=n)&&C (n<=274877906944))
 |_=>Y
def XM(n:Int):(aV Q (gC Z) 60 f180 [.nl (.slice Y 0 0),.t6 n] []).map (λx=>x)=
  E (.sl 0 0 0 1 0 (O (gI n)) I I,[.b [.af .u8 (O (gI n)) (t9 (O (gI n)) 0)]],aa (aa (aa Z (!C (n<0))) (C (gI n>0))) (C (0<=gI n)&&C (gI n<=2^38))):=by kernel_rfl
def Qn(n:Int):(aV Q (gC I) 60 f180 [.nl (.slice Y 0 0),.t6 n] []).v3=
  E (.nl (.slice Y 0 0),aa (aa Z (!C (n<0))) (!C (gI n>0))):=by kernel_rfl
def adz{n:Int}(f:0<=n)(h1:n<=274877906944):ak Q 180 [.nl (.slice Y 0 0),.t6 n] [] (.sl 0 0 0 1 0 (O n) I I) [.b [.af .u8 (O n) (t9 (O n) 0)]]:=by
 have e:gI n=n:=by unfold gI;rw[aM (0-((0:Nat):Int)) (by omega) (by omega),aM _ (by omega) (by omega)];omega
 by_cases c:n=0
 ·subst c;have k:=Qn 0;rw[e] at k;exact(aP (agB I) 60 func180 k rfl rfl).empty .u8 I I
 ·have k:=XM n;rw[e,aaS (show¬n<0 by omega),Me (by omega),Me f,Me (by omega)] at k;have⟨x,a,d⟩:=aaC.1 k;subst d;exact ak.bZ (agB Z) func180 a
def aun:aK Q:=.val 180 _ func180 (by decide) rfl I 1 agC λvs v new e=>by
 unfold agC at e;split at e
 ·simp[Mf,aad,No,aac] at e;have⟨rfl,rfl,b,a⟩:=e;exact adz b a
 ·cases e
def cB:Code:=aI f136
def II(a c:Bool):cu:=mk [aun] [] (λi=>if i=12 then E a else if i=20 then E I else if i=28 then E c else Y) λi=>i=33
def kj a c:aq Q (II a c):=au _ aN.nil _ _
def c1(a:List pD)(n i:Int):St:=⟨ag 36 [(0,.iX I a),(2,.nl (.slice Y 0 0)),(3,.t6 n),(9,.iX I a),(10,.t6 (A a)),(11,.t6 i)],[],Z⟩
def c2(a:List pD)(N m:Nat)(l:pD)(i:Int):St:=⟨ag 36 [(6,.sl 0 0 0 1 m N I I),(25,.iX I a),(26,.t6 (A a)),(27,.t6 i)],[.b [.af .u8 N l]],Z⟩
section
variable (xss:List pD) (n i:Int) (N m:Nat) (l:pD)
def D0:(bh Q (II Z Z) 60 0 3 (aH cB) ⟨aU f136.ntmps [.iX I xss],[],Z⟩).bind (St.cut [0,2,3,9,10,11] 0)=E (c1 xss 0 0):=by kernel_rfl
def IJ:(exec Q (II Z Z) 60 0 (aj (aj (aJ 3 cB))) (c1 xss n i)).bind (λr=>(r.2.cut [0,2,3,9,10,11] 0).map λq=>(r.1,q))=
  E (.normal,{c1 xss (i64.wrap (n+A (X xss i.toNat []))) (i64.wrap (i+1)) with ob:=aa (aa (aa (aa Z (C (i<A xss))) (bC i (A xss))) (C (O i<A xss))) (!C (i64.wrap (n+A (X xss i.toNat []))<0))}):=by kernel_rfl
def adA:(exec Q (II I Z) 60 0 (aj (aj (aJ 3 cB))) (c1 xss n i)).bind (λr=>(r.2.cut [0,2,3,9,10,11] 0).map λq=>(r.1,q))=
  E (.exit 0,{c1 xss n i with ob:=aa Z (!C (i<A xss))}):=by kernel_rfl
def alh:(bh Q (II Z Z) 60 0 2 ((aH cB).drop 4) (c1 xss n i)).bind (St.cut [6,25,26,27] 1)=
  E {c2 xss (O n) 0 (t9 (O n) 0) 0 with ob:=aa Z (aa Z (C (0<=n)&&C (n<=274877906944)))}:=by kernel_rfl
def ali:(exec Q (II Z Z) 60 0 (aj (aj (aJ 6 cB))) (c2 xss N m l i)).bind (λr=>(r.2.cut [6,25,26,27] 1).map λq=>(r.1,q))=
  E (.normal,{c2 xss N (m+A (xss.getD i.toNat [])) (CX l (0+m) (X xss (O i) []) (A (xss.getD i.toNat []))) (i64.wrap (i+1)) with ob:=aa (aa (aa (aa Z (C (i<A xss))) (bC i (A xss))) (C (O i<A xss))) (aa (aa Z (C (m+A (xss.getD i.toNat [])<=N)))
    (C (A l=N)&&C (0+m+A (xss.getD i.toNat [])<=N)&&C (A (xss.getD i.toNat [])<=A (xss.getD i.toNat []))))}):=by kernel_rfl
def adB:(exec Q (II Z I) 60 0 (aj (aj (aJ 6 cB))) (c2 xss N m l i)).bind (λr=>(r.2.cut [6,25,26,27] 1).map λq=>(r.1,q))=
  E (.exit 2,{c2 xss N m l i with ob:=aa Z (!C (i<A xss))}):=by kernel_rfl
end
def AN(xss:List pD)(i:Nat):Nat:=(xss.take i).flatten.length
def Cd{xss:List pD}{i}(h:i<A xss):(xss.take (i+1)).flatten=(xss.take i).flatten++X xss i []:=by
 have e:xss.take (i+1)=xss.take i++[xss[i]]:=by simp
 have g:X xss i []=xss[i]:=by simp[List.getD,aaQ h]
 rw[e,g,List.flatten_append,List.flatten_cons,List.flatten_nil,acj]
def AO{xss:List pD}{i}(h:i<A xss):AN xss (i+1)=AN xss i+A (X xss i []):=by unfold AN;rw[Cd h,abA]
def JS(xss:List pD) i:AN xss i<=A xss.flatten:=by
 have:xss.flatten=(xss.take i).flatten++(xss.drop i).flatten:=by rw[<-List.flatten_append,afA]
 unfold AN;rw[this,abA];omega
def yO(xss:List pD):AN xss (A xss)=A xss.flatten:=by unfold AN;rw[agW]
def nG(xss:List pD)(i:Nat):pD:=(xss.take i).flatten++t9 (A xss.flatten-AN xss i) 0
def Qo(xss:List pD) i:A (nG xss i)=A xss.flatten:=by have:=JS xss i;unfold nG;rw[abA,List.length_replicate];unfold AN at*;omega
def JT{xss:List pD}{i}(h:i<A xss):CX (nG xss i) (0+AN xss i) (X xss i []) (A (xss.getD i []))=nG xss (i+1):=by
 unfold CX;have b:(nG xss i).take (0+AN xss i)=(xss.take i).flatten:=by unfold nG;rw[af8];exact List.take_left' rfl
 have a:(nG xss i).drop (0+AN xss i+A (xss.getD i []))=t9 (A xss.flatten-AN xss (i+1)) 0:=by unfold nG;rw[List.drop_append,AO h,List.drop_of_length_le (by unfold AN;omega),List.nil_append,List.drop_replicate];congr 1;unfold AN;omega
 rw[b,a,agW];unfold nG;rw[Cd h]
def agD{xss:List pD}(h1:A xss.flatten<=274877906944)(h2:A xss<=274877906944):ak Q 136 [.iX I xss] [] (.sl 0 0 0 1 (A xss.flatten) (A xss.flatten) I I) [.b [.af .u8 (A xss.flatten) xss.flatten]]:=by
 have o:Tr Q Y 0 (aJ 3 cB) (c1 xss 0 0) .normal (c1 xss (A xss.flatten) (A xss)):=by
  have a:=Tr.loop (P:=Q) (ro:=Y) (k:=0) 0 (c:=aJ 3 cB) rfl (λj:Nat=>c1 xss (AN xss j) j) (A xss) (s':=c1 xss (A xss.flatten) (A xss)) (λj d=>?_) ?_
  ·exact a
  ·have k:=IJ xss (AN xss j) j;have t1:=JS xss (j+1);have t2:=AO d;rw[aaq,aM _ (by omega) (by omega),aM _ (by omega) (by omega)] at k;refine Tr.post (Tr.cut (kj Z Z) 60 _ 0 (by omega) k ?_) (bG.bR ?_ rfl)
   ·simp[av,aac,af9,agX,true_and];exact⟨⟨⟨by omega,dB (by omega) (by omega)⟩,by omega⟩,by omega⟩
   ·show(c1 _ _ _).t=(c1 _ _ _).t;rw[show(AN xss j:Int)+(A (X xss j []):Nat)=(AN xss (j+1):Int) by omega,show((j:Int)+1)=((j+1:Nat):Int) by omega]
  ·have k:=adA xss (AN xss (A xss)) (A xss);rw[yO] at k ⊢;exact Tr.post (Tr.cut (kj I Z) 60 _ 0 (by omega) k (by simp[aa])) (bG.bR rfl rfl)
 have l2:Tr Q Y 0 (aJ 6 cB) (c2 xss (A xss.flatten) 0 (t9 (A xss.flatten) 0) 0) .normal (c2 xss (A xss.flatten) (A xss.flatten) xss.flatten (A xss)):=by
  have a:=Tr.loop (P:=Q) (ro:=Y) (k:=0) 2 (c:=aJ 6 cB) rfl (λj:Nat=>c2 xss (A xss.flatten) (AN xss j) (nG xss j) j) (A xss) (s':=c2 xss (A xss.flatten) (A xss.flatten) xss.flatten (A xss)) (λj d=>?_) ?_
  ·exact a
  ·have k:=ali xss j (A xss.flatten) (AN xss j) (nG xss j)
   have t1:=JS xss (j+1)
   have t2:=AO d
   rw[aaq,aM _ (by omega) (by omega),JT d, <-t2] at k
   refine Tr.post (Tr.cut (kj Z Z) 60 _ 1 (by omega) k ?_) (bG.bR ?_ rfl)
   ·simp only[av,No,aac,true_and]
    exact⟨⟨⟨by omega,dB (by omega) (by omega)⟩,by omega⟩,by omega,⟨⟨Qo _ _,by omega⟩,by omega⟩⟩
   ·show(c2 _ _ _ [] _).t=(c2 _ _ _ [] _).t
    rw[show((j:Int)+1)=((j+1:Nat):Int) by omega]
  ·have k:=adB xss (A xss) (A xss.flatten) (AN xss (A xss)) (nG xss (A xss))
   have e:nG xss (A xss)=xss.flatten:=by unfold nG;rw[yO,Nat.sub_self,agW];simp
   rw[yO,e] at k
   rw[yO,e]
   exact Tr.post (Tr.cut (kj Z I) 60 _ 1 (by omega) k (by simp[aa])) (bG.bR rfl rfl)
 have a:ak Q 136 [.iX I xss] [] (.sl 0 0 0 1 (A xss.flatten) (A xss.flatten) I I) [.b [.af .u8 (A xss.flatten) xss.flatten]]:=by
  refine ak.iH (kj Z Z) 60 7 1 func136 (by simp) rfl (λs' x h=>?_) (s:=c2 xss (A xss.flatten) (A xss.flatten) xss.flatten (A xss)) (p:=Z) rfl rfl rfl rfl
  refine TrL.dM (kj Z Z) 60 3 _ 0 (by simp) (D0 xss) rfl (by decide) ?_
  refine TrL.dV 3 (by decide) o ?_
  have g:=alh xss (A xss.flatten) (A xss)
  rw[aaq] at g
  refine TrL.dM (kj Z Z) 60 2 _ 1 (by simp) g ?_ (by decide) ?_
  ·simp only[av,No,aac,true_and];omega
  refine TrL.dV 6 (by decide) (Tr.pre l2 (bG.bR rfl rfl)) h
 exact a
def auo{xss:List pD}(h1:A xss.flatten<=274877906944)(h2:A xss<=274877906944):ak Q 136 [.iX I xss] [] (.ro Z .u8 xss.flatten) []:=(agD h1 h2).frozen rfl
def aup:List SV->Option (SV×List Blk×Bool)
 | [.iX I xss]=>E (.sl 0 0 0 1 (A xss.flatten) (A xss.flatten) I I,[.b [.af .u8 (A xss.flatten) xss.flatten]],C (A xss.flatten<=274877906944)&&C (A xss<=274877906944))
 |_=>Y
def auq:aK Q:=.val 136 _ func136 (by decide) rfl Z 1 aup λvs v new e=>by
 unfold aup at e;split at e
 ·simp only[Mf,aad,No,aac] at e;have⟨rfl,rfl,b,a⟩:=e;exact agD b a
 ·cases e
def coF:List SV->Option (SV×List Blk×Bool)
 | [.iX I xss]=>E (.ro Z .u8 xss.flatten,[],C (A xss.flatten<=274877906944)&&C (A xss<=274877906944))
 |_=>Y
def KV:aK Q:=.val 136 _ func136 (by decide) rfl Z 0 coF λvs v new e=>by
 unfold coF at e;split at e
 ·simp only[Mf,aad,No,aac] at e;have⟨rfl,rfl,b,a⟩:=e;exact auo b a
 ·cases e
end Sh
end Go.Proofs.YthlnlcijnoadcaaGreatDoor
namespace Go.Sy
variable {P:Program}
def ak.split{f args h h1 v k xs}(p:0<A xs->ak P f (.ro I k xs::args) h v h1)
  (r:xs=[]->ak P f (.nl (.slice Y 0 0)::args) h v h1)(j:xs=[]->∀a c,ak P f (.nl (.slice (E a) 0 c)::args) h v h1):ak P f (.ro I k xs::args) h v h1:=by
 by_cases b:xs=[]
 ·intro B e w g hB s R;obtain⟨y,x,h1,d,rfl⟩:=s;rcases h1 with⟨_,a,cap,rfl,q⟩|⟨n,o,cap,c,t,u,rfl,_⟩
  ·cases a with
   |none=>
    obtain rfl:=q rfl
    exact r b B e w _ hB ⟨.slice Y 0 0,_,rfl,d,rfl⟩ R
   |some a=>exact j b a cap B e w _ hB ⟨_,_,rfl,d,rfl⟩ R
  ·subst b
   exact j rfl _ cap B e w _ hB ⟨_,_,rfl,d,rfl⟩ R
 ·exact p (List.length_pos_iff.2 b)
end Go.Sy
namespace Go.Proofs.YthlnlcijnoadcaaGreatDoor
namespace Sh
open Sy
def XN{xs}(h:A xs<=274877906944):ak Q 211 [.ro I .u8 xs] [] (.sl 0 0 0 1 (A xs) (A xs) I Z) [.b [.af .u8 (A xs) xs]]:=by
 refine ak.split (λh0=>?_) (λhx=>?_) (λhx a c=>?_)
 ·have k:(aV Q (mk (P:=Q) [] []) 60 f211 [.ro I .u8 xs] []).map (λx=>x)=
    E (.sl 0 0 0 1 (0+A xs) (0+A xs) I Z,[.b [.af .u8 (0+A xs) (t9 0 0++xs)]],aa (aa Z (C (0<A xs))) (aa Z (C (0+A xs<=2^38)))):=by kernel_rfl
  rw[af8,Me h0,Me (by omega)] at k;have⟨x,d,e⟩:=aaC.1 k;subst e;exact ak.bZ ru func211 d
 ·subst hx;exact(aP ru 60 func211 rfl rfl rfl).empty .u8 I Z
 ·subst hx;have k:aV Q (mk (P:=Q) [] []) 60 f211 [.nl (.slice (E a) 0 c)] []=E (.sl 0 0 0 1 0 0 I Z,[.b [.af .u8 0 []]],Z):=by kernel_rfl
  exact ak.bZ ru func211 k
def XO:List SV->Option (SV×List Blk×Bool)
 | [.ro I .u8 a]=>E (.sl 0 0 0 1 (A a) (A a) I Z,[.b [.af .u8 (A a) a]],C (A a<=274877906944))
 |_=>Y
def XP:aK Q:=.val 211 _ func211 (by decide) rfl Z 1 XO λvs v new e=>by
 unfold XO at e;split at e
 ·simp[Mf,aad,aac] at e;have⟨rfl,rfl,h⟩:=e;exact XN h
 ·cases e
def DZ(n:Int)(i:Nat):Int:=IntKind.u8.wrap (eF .u64 (jz .u64 (W n) 3) (8*i))
def Ms(n:Int):pD:=[0,0,0,0,0,0,0,IntKind.u8.wrap (eF .u64 (W n) 61),DZ n 7,DZ n 6,DZ n 5,DZ n 4,DZ n 3,DZ n 2,DZ n 1,DZ n 0]
def Qk(n:Int):pD:=[DZ n 7,DZ n 6,DZ n 5,DZ n 4,DZ n 3,DZ n 2,DZ n 1,DZ n 0]
def alj(n:Int):ak Q 251 [.t6 n,.t6 16] [] (.ro Z .u8 (Ms n)) []:=
 ak.frozen (ex:=Z) (wh:=Z) (ak.bZ ru func251 (n:=200) (by kernel_rfl)) rfl
def adD(n:Int):ak Q 251 [.t6 n,.t6 8] [] (.ro Z .u8 (Qk n)) []:=
 ak.frozen (ex:=Z) (wh:=Z) (ak.bZ ru func251 (n:=200) (by kernel_rfl)) rfl
def aur:List SV->Option (SV×List Blk×Bool)
 | [.int .i64 n,.int .i64 m]=>bif m==16 then E (.ro Z .u8 (Ms n),[],Z) else bif m==8 then E (.ro Z .u8 (Qk n),[],Z) else Y
 |_=>Y
def aB8:aK Q:=.val 251 _ func251 (by decide) rfl I 0 aur λvs v new e=>by
 unfold aur at e;split at e
 ·rename_i n m;by_cases b:m=16
  ·subst b;cases e;exact alj n
  ·rw[beq_false_of_ne b] at e;by_cases a:m=8
   ·subst a;cases e;exact adD n
   ·rw[beq_false_of_ne a] at e;cases e
 ·cases e
def pB:Code:=aI f213
def paC(b:Bool):cu:=mk [XP,aB8] [] λi=>if i=21 then E b else Y
def pY b:aq Q (paC b):=au _ aN.nil _ _
def pS(m:Nat)(l:pD)(n pc sz:Int):St:=⟨ag 30 [(1,.t6 n),(2,.t6 pc),(3,.t6 sz),(9,.sl 0 0 0 1 m m I Z)],[.b [.af .u8 m l]],Z⟩
def apO(a b:Nat):Bool:=aa (aa (aa Z (C (a=b)&&(C (b<=b)&&Z))) (C (a=b))) (C (b+1<=2^38))
section
variable (m:Nat) (l xs:pD) (n pc sz:Int)
def Mt:(bh Q (paC Z) 60 0 2 (aH pB) ⟨aU f213.ntmps [.ro I .u8 xs,.t6 n,.t6 pc,.t6 sz],[],Z⟩).bind (St.cut [1,2,3,9] 1)=
  E {pS (A xs+1) (xs++[128]) n pc sz with ob:=aa (aa Z (aa Z (C (A xs<=274877906944)))) (apO (A xs) (A xs))}:=by kernel_rfl
def alk:(exec Q (paC Z) 60 0 (aj (aj (aJ 2 pB))) (pS m l n pc sz)).bind (λr=>(r.2.cut [1,2,3,9] 1).map λq=>(r.1,q))=
  E (.normal,{pS (m+1) (l++[0]) n pc sz with ob:=aa (aa (aa Z (pc != 0)) ((m:Int).tmod pc != i64.wrap (pc-sz))) (apO (A l) m)}):=by kernel_rfl
def alm:(exec Q (paC I) 60 0 (aj (aj (aJ 2 pB))) (pS m l n pc sz)).bind (λr=>(r.2.cut [1,2,3,9] 1).map λq=>(r.1,q))=
  E (.exit 0,{pS m l n pc sz with ob:=aa (aa Z (pc != 0)) (!((m:Int).tmod pc != i64.wrap (pc-sz)))}):=by kernel_rfl
end
def jW{a}(h:a<274877906944):apO a a=Z:=by unfold apO;rw[Me rfl,Me (aar a),Me (by omega)];rfl
def e7(len pc q:Nat):Nat:=(q+pc-(len+1)%pc)%pc
def vT{len pc q}(b:q<pc):(len+1+e7 len pc q)%pc=q/\∀j,j<e7 len pc q->(len+1+j)%pc≠q:=by
 have g:(len+1)%pc<pc:=Nat.mod_lt _ (by omega);unfold e7;generalize c:(len+1)%pc=r at*;have a:∀j,(len+1+j)%pc=(r+j)%pc:=λj=>by rw[<-c,Nat.mod_add_mod]
 by_cases h:r<=q
 ·have e:(q+pc-r)%pc=q-r:=by rw[show q+pc-r=(q-r)+pc by omega,Nat.add_mod_right,ah7 (by omega)]
  rw[e];refine⟨by rw[a,show r+(q-r)=q by omega,ah7 b],λj f=>?_⟩;rw[a,ah7 (by omega)];omega
 ·have e:(q+pc-r)%pc=q+pc-r:=ah7 (by omega);rw[e];refine⟨by rw[a,show r+(q+pc-r)=q+pc by omega,Nat.add_mod_right,ah7 b],λj f=>?_⟩;rw[a];by_cases d:r+j<pc
  ·rw[ah7 d];omega
  ·rw[show r+j=(r+j-pc)+pc by omega,Nat.add_mod_right,ah7 (by omega)];omega
def gZ(xs:pD)(pc q:Nat):pD:=xs++[128]++t9 (e7 (A xs) pc q) 0
def kV xs pc q:A (gZ xs pc q)=A xs+1+e7 (A xs) pc q:=by simp[gZ];omega
def Mu{xs}(n:Int){pc sz q:Nat}(hq:q+sz=pc)(h:0<sz)(hpc:pc<1000)(hx:A xs<274877900000):
  Tr Q Y 0 (aJ 2 pB) (pS (A xs+1) (xs++[128]) n pc sz) .normal (pS (A xs+1+e7 (A xs) pc q) (gZ xs pc q) n pc sz):=by
 have⟨k1,k2⟩:=vT (len:=A xs) (show q<pc by omega);have hK:e7 (A xs) pc q<pc:=Nat.mod_lt _ (by omega);have a:((pc:Int) != 0)=Z:=bne_iff_ne.2 (by omega);have e:i64.wrap ((pc:Int)-(sz:Int))=(q:Int):=by rw[aM _ (by omega) (by omega)];omega
 have f:∀j,((A xs+1+j:Nat):Int).tmod (pc:Int)=(((A xs+1+j)%pc:Nat):Int):=λj=>by rw[afS (by omega),Int.natCast_emod]
 have b:=Tr.loop (P:=Q) (ro:=Y) (k:=0) 0 (c:=aJ 2 pB) rfl (λj:Nat=>pS (A xs+1+j) (xs++[128]++t9 j 0) n pc sz) (e7 (A xs) pc q) (s':=pS (A xs+1+e7 (A xs) pc q) (gZ xs pc q) n pc sz) (λj hj=>?_) ?_
 ·refine Tr.pre b (bG.bR rfl ?_);show[_]=[_];simp
 ·have k:=alk (A xs+1+j) (xs++[128]++t9 j 0) n pc sz;have g:A (xs++[128]++t9 j 0)=A xs+1+j:=by simp;omega
  rw[a,f,e,g,jW (by omega),bne_iff_ne.2 (show(((A xs+1+j)%pc:Nat):Int)≠((q:Nat):Int) from λh=>k2 j hj (by omega))] at k;refine Tr.post (Tr.cut (pY Z) 60 _ 1 (by omega) k rfl) (bG.bR rfl ?_);show[_]=[_];rw[List.replicate_succ', <-aeH];rfl
 ·have k:=alm (A xs+1+e7 (A xs) pc q) (gZ xs pc q) n pc sz;rw[a,f,e,k1] at k;exact Tr.post (Tr.cut (pY I) 60 _ 1 (by omega) k (by simp[aa])) (bG.bR rfl rfl)
def wD{xs}(n:Int)(b:A xs<274877900000):ak Q 213 [.ro I .u8 xs,.t6 n,.t6 128,.t6 16] [] (.ro Z .u8 (gZ xs 128 112++Ms n)) []:=by
 have c:e7 (A xs) 128 112<128:=Nat.mod_lt _ (by omega);have a:=kV xs 128 112;refine ak.frozen (N:=A xs+1+e7 (A xs) 128 112+16) (ex:=I) (wh:=Z) ?_ (by rw[abA,a];rfl);refine ak.iH (pY Z) 60 3 1 func213 (by simp) rfl (λs' x h=>?_) (s:=pS (A xs+1+e7 (A xs) 128 112) (gZ xs 128 112) n 128 16)
  (p:=aa Z (aa (aa (aa Z (C (A (gZ xs 128 112)=A xs+1+e7 (A xs) 128 112)&&(C (A xs+1+e7 (A xs) 128 112<=A xs+1+e7 (A xs) 128 112)&&Z))) (C (A (gZ xs 128 112)=A xs+1+e7 (A xs) 128 112))) (C (A xs+1+e7 (A xs) 128 112+16<=2^38)))) (by kernel_rfl) (by rw[a];simp[av,aac,decide_true,Bool.and_self,true_and,aar];omega) rfl rfl
 refine TrL.dM (pY Z) 60 2 _ 1 (by simp) (Mt xs n 128 16) (by rw[jW (by omega),Me (by omega)];rfl) (by decide) ?_;exact TrL.dV 2 (by decide) (Tr.pre (Mu n (pc:=128) (sz:=16) (q:=112) rfl (by decide) (by decide) b) (bG.bR rfl rfl)) h
def JU{xs}(n:Int)(b:A xs<274877900000):ak Q 213 [.ro I .u8 xs,.t6 n,.t6 64,.t6 8] [] (.ro Z .u8 (gZ xs 64 56++Qk n)) []:=by
 have c:e7 (A xs) 64 56<64:=Nat.mod_lt _ (by omega);have a:=kV xs 64 56;refine ak.frozen (N:=A xs+1+e7 (A xs) 64 56+8) (ex:=I) (wh:=Z) ?_ (by rw[abA,a];rfl);refine ak.iH (pY Z) 60 3 1 func213 (by simp) rfl (λs' x h=>?_) (s:=pS (A xs+1+e7 (A xs) 64 56) (gZ xs 64 56) n 64 8)
  (p:=aa Z (aa (aa (aa Z (C (A (gZ xs 64 56)=A xs+1+e7 (A xs) 64 56)&&(C (A xs+1+e7 (A xs) 64 56<=A xs+1+e7 (A xs) 64 56)&&Z))) (C (A (gZ xs 64 56)=A xs+1+e7 (A xs) 64 56))) (C (A xs+1+e7 (A xs) 64 56+8<=2^38)))) (by kernel_rfl) (by rw[a];simp[av,aac,decide_true,Bool.and_self,true_and,aar];omega) rfl rfl
 refine TrL.dM (pY Z) 60 2 _ 1 (by simp) (Mt xs n 64 8) (by rw[jW (by omega),Me (by omega)];rfl) (by decide) ?_;exact TrL.dV 2 (by decide) (Tr.pre (Mu n (pc:=64) (sz:=8) (q:=56) rfl (by decide) (by decide) b) (bG.bR rfl rfl)) h
def aus:List SV->Option (SV×List Blk×Bool)
 | [.ro I .u8 xs,.int .i64 n,.int .i64 pc,.int .i64 sz]=>bif pc==128&&sz==16 then E (.ro Z .u8 (gZ xs 128 112++Ms n),[],C (A xs<274877900000)) else bif pc==64&&sz==8 then E (.ro Z .u8 (gZ xs 64 56++Qk n),[],C (A xs<274877900000)) else Y
 |_=>Y
def Mv:aK Q:=.val 213 _ func213 (by decide) rfl Z 0 aus λvs v new e=>by
 unfold aus at e;split at e
 ·rename_i xs n pc sz;by_cases a:(pc==128&&sz==16)=Z
  ·rw[a] at e;simp[No,afP] at a;obtain⟨rfl,rfl⟩:=a;simp only[aja,Mf,aad,aac] at e;have⟨rfl,rfl,h⟩:=e;exact wD n h
  ·rw[aj2] at a;rw[a] at e;by_cases b:(pc==64&&sz==8)=Z
   ·rw[b] at e;simp[No,afP] at b;obtain⟨rfl,rfl⟩:=b;simp only[aja,ajB,Mf,aad,aac] at e;have⟨rfl,rfl,h⟩:=e;exact JU n h
   ·rw[aj2] at b;rw[b] at e;cases e
 ·cases e
def aEQ(vs:List SV):List Nat:=match vs with
 | [_,_,.aG b _ _]=>[b]
 |_=>[]
def XQ:Option (SV×List Blk×Bool)->pD
 |some (.agg [.af _ _ l],_,_)=>l
 |_=>[]
def kL:pD:=XQ (aV Q (mk (P:=Q) [] []) 60 f247 [] [])
def bL:pD:=XQ (aV Q (mk (P:=Q) [] []) 60 f208 [] [])
def XR:List SV->Option (SV×List Blk×Bool)
 | []=>E (.agg [.af .u64 80 kL],[],Z)
 |_=>Y
def aln:aK Q:=.val 247 _ func247 (by decide) rfl I 0 XR λvs v new e=>by
 unfold XR at e;split at e
 ·cases e;exact aP ru 60 func247 rfl rfl rfl
 ·cases e
def XS:List SV->Option (SV×List Blk×Bool)
 | []=>E (.agg [.af .u64 8 bL],[],Z)
 |_=>Y
def alo:aK Q:=.val 208 _ func208 (by decide) rfl I 0 XS λvs v new e=>by
 unfold XS at e;split at e
 ·cases e;exact aP ru 60 func208 rfl rfl rfl
 ·cases e
def HJ:cu:=mk (P:=Q) [] [] λi=>if i=6 then E I else Y
def jI:aq Q HJ:=au _ aN.nil _ _
def XT:List SV->Option (SV×List Blk×Bool)
 | [.ro I .u8 xs,.int .i64 n]=>E (.fn (.func 250) [] [.r5 0,.r5 1],[.b [.ro I .u8 xs],.b [.t6 n]],!C (n<1))
 |_=>Y
def XU:aK Q:=.val 212 _ func212 (by decide) rfl Z 2 XT λvs v new e=>by
 unfold XT at e;split at e
 ·rename_i xs n;simp only[Mf,aad] at e;have⟨rfl,rfl,h⟩:=e;exact qA jI 30 func212 2 (by simp) (p:=aa Z (!C (n<1))) (by kernel_rfl) (by rw[h];rfl) rfl rfl
 ·cases e
end Sh
namespace S2
open Sy Sh
abbrev V(n:Int):Int:=IntKind.u32.wrap n
def AM n:IntKind.u32.wrap n=n%4294967296:=by simp[IntKind.wrap,IntKind.signed,IntKind.bits]
def yo(x a:Int):Int:=qn .u32 (jz .u32 x (O (fj .u64 (W a) 31))) (eF .u32 x (O (W (32-fj .u64 (W a) 31))))
def adu(x a:Int):Int:=yo x (i64.wrap (0-a))
def tnP(x a b c:Int):Int:=gJ .u32 (gJ .u32 (adu x a) (adu x b)) (adu x c)
def aut:List SV->Option (SV×List Blk×Bool)
 | [.int .u32 x,.int .i64 a]=>E (.int .u32 (yo x a),[],Z)
 |_=>Y
def alp:aK Q:=.val 248 _ func248 (by decide) rfl I 0 aut λvs v new e=>by
 unfold aut at e;split at e
 ·rename_i x a;cases e;exact aP ru 60 func248 (p:=aa Z (W0 (32-fj .u64 (W a) 31))) (by kernel_rfl) (by simp[Mo,av,and_self]) rfl
 ·cases e
def Q8:cu:=mk [alp] []
def lD:aq Q Q8:=au _ aN.nil _ _
def XV:List SV->Option (SV×List Blk×Bool)
 | [.int .u32 x,.int .i64 a,.int .i64 b,.int .i64 c]=>E (.int .u32 (tnP x a b c),[],Z)
 |_=>Y
def y6:aK Q:=.val 249 _ func249 (by decide) rfl I 0 XV λvs v new e=>by
 unfold XV at e;split at e
 ·rename_i x a b c;cases e;exact aP lD 60 func249 (by kernel_rfl) rfl rfl
 ·cases e
def nO:pD:=(t8 64).map λi=>V (eF .u64 (X kL i 0) 32)
def shC:cu:=mk [aln] []
def alq:aq Q shC:=au _ aN.nil _ _
def Mw:List SV->Option (SV×List Blk×Bool)
 | []=>E (.agg [.af .u32 64 nO],[],Z)
 |_=>Y
def D1:aK Q:=.val 209 _ func209 (by decide) rfl I 0 Mw λvs v new e=>by
 unfold Mw at e;split at e
 ·cases e;exact aP alq 200 func209 rfl rfl rfl
 ·cases e
def wd(p:pD)(i:Nat):Int:=qn .u32 (qn .u32 (qn .u32 (jz .u32 (V (X p (4*i) 0)) 24) (jz .u32 (V (X p (4*i+1) 0)) 16)) (jz .u32 (V (X p (4*i+2) 0)) 8)) (V (X p (4*i+3) 0))
def Qj(p:pD):pD:=(t8 16).map (wd p)++t9 48 0
def nxW(y x a b:Int):Int:=V (V (V (gJ .u32 (gJ .u32 (yo y (-17)) (yo y (-19))) (eF .u32 y 10)+a)+gJ .u32 (gJ .u32 (yo x (-7)) (yo x (-18))) (eF .u32 x 3))+b)
def kW(w:pD):Nat->pD
 |0=>w
 |j+1=>(kW w j).set (16+j) (nxW (X (kW w j) (14+j) 0) (X (kW w j) (1+j) 0) (X (kW w j) (9+j) 0) (X (kW w j) j 0))
def chW(e f g:Int):Int:=gJ .u32 (fj .u32 e f) (fj .u32 (gJ .u32 IntKind.u32.max e) g)
def mjW(a b c:Int):Int:=gJ .u32 (gJ .u32 (fj .u32 a b) (fj .u32 a c)) (fj .u32 b c)
def t1W(s:pD)(k w:Int):Int:=V (V (V (V (X s 7 0+tnP (X s 4 0) 6 11 25)+chW (X s 4 0) (X s 5 0) (X s 6 0))+k)+w)
def t2W(s:pD):Int:=V (tnP (X s 0 0) 2 13 22+mjW (X s 0 0) (X s 1 0) (X s 2 0))
def Qi(s:pD)(k w:Int):pD:=[V (t1W s k w+t2W s),X s 0 0,X s 1 0,X s 2 0,V (X s 3 0+t1W s k w),X s 4 0,X s 5 0,X s 6 0]
def gb(s k w:pD):Nat->pD
 |0=>s
 |j+1=>Qi (gb s k w j) (X k j 0) (X w j 0)
def Gy(s t:pD):pD:=(t8 8).map λi=>V (X s i 0+X t i 0)
def kC(s p k:pD):pD:=lQ (Gy s (gb s k (kW (Qj p) 48) 64))
def wC(b c:Bool):cu:=mk [y6,alp] [] λi=>if i=58 then E b else if i=105 then E c else Y
def Mx b c:aq Q (wC b c):=au _ aN.nil _ _
def wC0:cu:=mk [y6,alp] []
def JV:aq Q wC0:=au _ aN.nil _ _
def wB:Code:=aI f210
def dg(a r:pD)(n:Int):Blk:=.b [.af .u32 8 a,.ro Z .u8 r,.t6 n]
def wS(a r:pD)(n:Int)(kk w:pD)(i:Int):St:=⟨ag 195 [(0,.r5 0),(2,.r5 1),(6,.r5 2),(8,.t6 i)],[dg a r n,.b [.af .u32 64 kk],.b [.af .u32 64 w]],Z⟩
def wR(a r:pD)(n:Int)(kk w s:pD)(i:Int):St:=⟨ag 195 [(0,.r5 0),(2,.r5 1),(6,.r5 2),(13,.r5 3),(104,.t6 i)],[dg a r n,.b [.af .u32 64 kk],.b [.af .u32 64 w],.b [.af .u32 8 (cD 8 s)]],Z⟩
section
variable (st r p kk w s:pD) (n i:Int)
theorem alr:(bh Q wC0 200 2 4 (aH wB) ⟨aU f210.ntmps [.r5 0,.ro I .u8 (cD 64 p),.r5 1],[dg st r n,.b [.af .u32 64 kk]],Z⟩).bind (St.cut [0,2,6,8] 3)=E (wS st r n kk (Qj p) 16):=by kernel_rfl
def nxI(w:pD)(i:Int):Int:=nxW (X w (0+O (i64.wrap (i-2))) 0) (X w (0+O (i64.wrap (i-15))) 0) (X w (0+O (i64.wrap (i-7))) 0) (X w (0+O (i64.wrap (i-16))) 0)
def nxO(i:Int)(n:Nat):Bool:=aa (aa (aa (aa (aa (aa (aa (aa (aa (aa (aa Z (C (i<64))) (bC (i64.wrap (i-15)) 64)) (C (0+O (i64.wrap (i-15))<64))) (bC (i64.wrap (i-2)) 64)) (C (0+O (i64.wrap (i-2))<64)))
 (bC (i64.wrap (i-7)) 64)) (C (0+O (i64.wrap (i-7))<64))) (bC (i64.wrap (i-16)) 64)) (C (0+O (i64.wrap (i-16))<64))) (bC i 64)) (C (0+O i<64)&&C (n=64))
def als:(exec Q (wC Z Z) 200 2 (aj (aj (aJ 4 wB))) (wS st r n kk w i)).bind (λr=>(r.2.cut [0,2,6,8] 3).map λq=>(r.1,q))=E (.normal,{wS st r n kk (w.set (0+O i) (nxI w i)) (i64.wrap (i+1)) with ob:=nxO i (A w)}):=by kernel_rfl
def adE:(exec Q (wC I Z) 200 2 (aj (aj (aJ 4 wB))) (wS st r n kk w i)).bind (λr=>(r.2.cut [0,2,6,8] 3).map λq=>(r.1,q))=E (.exit 2,{wS st r n kk w i with ob:=aa Z (!C (i<64))}):=by kernel_rfl
def auu:(bh Q wC0 200 2 2 ((aH wB).drop 5) (wS (cD 8 st) r n kk w i)).bind (St.cut [0,2,6,13,104] 4)=E (wR (cD 8 st) r n kk w st 0):=by kernel_rfl
def rnO(i:Int):Bool:=aa (aa (aa (aa (aa Z (C (i<64))) (bC i 64)) (C (0+O i<64))) (bC i 64)) (C (0+O i<64))
def auv:(exec Q (wC Z Z) 200 2 (aj (aj (aJ 7 wB))) (wR st r n kk w s i)).bind (λr=>(r.2.cut [0,2,6,13,104] 4).map λq=>(r.1,q))=E (.normal,{wR st r n kk w (Qi (cD 8 s) (X kk (0+O i) 0) (X w (0+O i) 0)) (i64.wrap (i+1)) with ob:=rnO i}):=by kernel_rfl
def alu:(exec Q (wC Z I) 200 2 (aj (aj (aJ 7 wB))) (wR st r n kk w s i)).bind (λr=>(r.2.cut [0,2,6,13,104] 4).map λq=>(r.1,q))=E (.exit 4,{wR st r n kk w s i with ob:=aa Z (!C (i<64))}):=by kernel_rfl
end
def Ce(w:pD):∀j,A (kW w j)=A w
 |0=>rfl
 |j+1=>by rw[kW,ajT];exact Ce w j
def adF(p:pD):A (Qj p)=64:=by simp[Qj]
def alv{w:pD}{j:Nat}(a:j<48):nxI w (16+j)=nxW (X w (14+j) 0) (X w (1+j) 0) (X w (9+j) 0) (X w j 0):=by unfold nxI;rw[aM _ (by omega) (by omega),aM _ (by omega) (by omega),aM _ (by omega) (by omega),aM _ (by omega) (by omega)];rw[show 0+O ((16:Int)+j-2)=14+j by omega,show 0+O ((16:Int)+j-15)=1+j by omega,show 0+O ((16:Int)+j-7)=9+j by omega,show 0+O ((16:Int)+j-16)=j by omega]
def XW{j:Nat}(b:j<48):nxO (16+j) 64=Z:=by unfold nxO;rw[aM _ (by omega) (by omega),aM _ (by omega) (by omega),aM _ (by omega) (by omega),aM _ (by omega) (by omega)];simp[av,No,aac,true_and];refine⟨⟨⟨⟨⟨⟨⟨⟨⟨⟨?_,dB (by omega) (by omega)⟩,?_⟩,dB (by omega) (by omega)⟩,?_⟩,dB (by omega) (by omega)⟩,?_⟩,dB (by omega) (by omega)⟩,?_⟩,dB (by omega) (by omega)⟩,?_⟩<;>first|omega|exact⟨by omega,trivial⟩
def XX{j:Nat}(a:j<64):rnO (j:Int)=Z:=by unfold rnO;simp[av,aac,true_and];refine⟨⟨⟨⟨?_,dB (by omega) (by omega)⟩,?_⟩,dB (by omega) (by omega)⟩,?_⟩<;>omega
def adG(s:pD)(k w:Int):cD 8 (Qi s k w)=Qi s k w:=rfl
def GG(s k w:pD):∀j,cD 8 (gb (cD 8 s) k w j)=gb (cD 8 s) k w j
 |0=>bV (bp _ _)
 |_+1=>adG ..
def alw st r p kk n:Tr Q Y 2 (aJ 4 wB) (wS (cD 8 st) r n kk (Qj p) 16) .normal (wS (cD 8 st) r n kk (kW (Qj p) 48) 64):=by
 have a:=Tr.loop (P:=Q) (ro:=Y) (k:=2) 2 (c:=aJ 4 wB) rfl (λj:Nat=>wS (cD 8 st) r n kk (kW (Qj p) j) (16+j)) 48 (s':=wS (cD 8 st) r n kk (kW (Qj p) 48) 64) (λj b=>?_) ?_
 ·exact a
 ·have k:=als (cD 8 st) r kk (kW (Qj p) j) n (16+j);rw[Ce,adF,XW b,alv b,aM _ (by omega) (by omega)] at k;refine Tr.post (Tr.cut (Mx Z Z) 200 _ 3 (by omega) k rfl) (bG.bR ?_ ?_)
  ·show(wS _ _ _ _ _ _).t=(wS _ _ _ _ _ _).t;rw[show((16:Int)+(j:Int)+1)=16+(j+1:Int) by omega];rfl
  ·show(wS _ _ _ _ _ _).h=(wS _ _ _ _ _ _).h;rw[show 0+O ((16:Int)+(j:Int))=16+j by omega];rfl
 ·have k:=adE (cD 8 st) r kk (kW (Qj p) 48) n 64;exact Tr.post (Tr.cut (Mx I Z) 200 _ 3 (by omega) k rfl) (bG.bR rfl rfl)
def adH st r kk w n:Tr Q Y 2 (aJ 7 wB) (wR (cD 8 st) r n kk w st 0) .normal (wR (cD 8 st) r n kk w (gb (cD 8 st) kk w 64) 64):=by
 have a:=Tr.loop (P:=Q) (ro:=Y) (k:=2) 4 (c:=aJ 7 wB) rfl (λj:Nat=>wR (cD 8 st) r n kk w (gb (cD 8 st) kk w j) j) 64 (s':=wR (cD 8 st) r n kk w (gb (cD 8 st) kk w 64) 64) (λj b=>?_) ?_
 ·refine Tr.pre a (bG.bR rfl ?_);show(wR _ _ _ _ _ _ _).h=(wR _ _ _ _ _ _ _).h;unfold wR;simp[gb];rw[bV (bp 8 st)]
 ·have k:=auv (cD 8 st) r kk w (gb (cD 8 st) kk w j) n j;rw[XX b,aM _ (by omega) (by omega),GG] at k;refine Tr.post (Tr.cut (Mx Z Z) 200 _ 4 (by omega) k rfl) (bG.bR ?_ ?_)
  ·show(wR _ _ _ _ _ _ _).t=(wR _ _ _ _ _ _ _).t;rw[show((j:Int)+1)=(j+1:Int) by omega];rfl
  ·show(wR _ _ _ _ _ _ _).h=(wR _ _ _ _ _ _ _).h;rw[show 0+O (j:Int)=j by omega];rfl
 ·have k:=alu (cD 8 st) r kk w (gb (cD 8 st) kk w 64) n 64;exact Tr.post (Tr.cut (Mx Z I) 200 _ 4 (by omega) k rfl) (bG.bR rfl rfl)
theorem XY{st p kk}(r)(n)(c:A st=8)(d:A p=64):ak Q 210 [.r5 0,.ro I .u8 p,.r5 1] [dg st r n,.b [.af .u32 64 kk]] (.bP []) [dg (kC st p kk) r n,.b [.af .u32 64 kk]]:=by
 have a:ak Q 210 [.r5 0,.ro I .u8 (cD 64 p),.r5 1] [dg (cD 8 st) r n,.b [.af .u32 64 kk]] (.bP []) [dg (kC (cD 8 st) p kk) r n,.b [.af .u32 64 kk]]:=by
  rw[kC,bD]
  refine ak.iH JV 200 8 2 func210 (by simp) rfl (λs' x h=>?_) (s:=wR (cD 8 st) r n kk (kW (Qj p) 48) (gb (cD 8 st) kk (kW (Qj p) 48) 64) 64) (p:=Z) (by rw[<-GG];kernel_rfl) rfl rfl rfl
  refine TrL.dM JV 200 4 _ 3 (by simp) (alr (cD 8 st) r p kk n) rfl (by decide) ?_
  refine TrL.dV 4 (by decide) (alw st r p kk n) ?_
  refine TrL.dM JV 200 2 _ 4 (by simp) (auu st r kk _ n 64) rfl (by decide) ?_
  exact TrL.dV 7 (by decide) (adH st r kk _ n) h
 rw[bV d,bV c] at a
 exact a
def xZ(vs:List SV)(_:List Blk):List Nat:=match vs with
 | [.aG a _ _,_,.aG b _ _]=>[a,b]
 |_=>[]
def XZ:List SV->List Blk->Option (SV×List Blk×Bool)
 | [.aG 0 0 0,.ro I .u8 p,.aG 1 0 0],[.b [.af .u32 8 st,.ro Z .u8 r,.int .i64 n],.b [.af .u32 64 kk]]=>E (.bP [],[dg (kC st p kk) r n,.b [.af .u32 64 kk]],C (A st=8)&&C (A p=64))
 |_,_=>Y
def JW:aK Q:=.mut 210 _ func210 (by decide) rfl xZ 0 XZ λvs c v d e=>by
 unfold XZ at e;split at e
 ·simp[Mf,aad,No,aac] at e;have⟨rfl,rfl,b,a⟩:=e;exact XY _ _ b a
 ·cases e
end S2
namespace Sh
open Sy
def D2:Code:=aI f250
end Sh
namespace S2
open Sy Sh
def ld(p kk st:pD):Nat->pD
 |0=>st
 |j+1=>kC (ld p kk st j) ((p.drop (64*j)).take 64) kk
def JX s p k:A (kC s p k)=8:=by rw[kC,bD];simp[Gy]
def rV{p kk st}(h:A st=8):∀j,A (ld p kk st j)=8
 |0=>h
 |_+1=>JX ..
def uZ:pD:=(t8 8).map λi=>V (eF .u64 (X bL i 0) 32)
def u7:A uZ=8:=by simp[uZ]
def QX:cu:=mk [alo] []
def qF:aq Q QX:=au _ aN.nil _ _
def alx:ak Q 166 [] [] (.r5 0) [dg uZ [] 0]:=by
 have k:ak Q 166 [] [] (.r5 0) [.b [.af .u32 8 uZ,.nl (.slice Y 0 0),.t6 0]]:=
  qA qF 200 func166 1 (by simp) rfl rfl rfl rfl
 refine ak.conv k trivial trivial (VE.refl _) ⟨⟨rfl,?_⟩,trivial⟩;rintro e h ⟨j,⟨y,g,f,d,rfl⟩,rfl⟩;have c:=f;subst c;exact⟨_,⟨.slice Y 0 0,g,.inl ⟨rfl,Y,0,rfl,λ_=>rfl⟩,d,rfl⟩,rfl⟩
def auw:List SV->Option (SV×List Blk×Bool)
 | []=>E (.r5 0,[dg uZ [] 0],Z)
 |_=>Y
def ara:aK Q:=.val 166 _ func166 (by decide) rfl I 1 auw λvs v new e=>by
 unfold auw at e;split at e
 ·cases e;exact alx
 ·cases e
def adC(b:Bool):cu:=mk [KV,D1,JW,XP] [] λi=>if i=27 then E b else Y
def D3(b:Bool):aq Q (adC b):=au _ aN.nil _ _
def aB:Code:=aI f167
def aS(st r b:pD)(n:Int)(kk all:pD):St:=⟨ag 39 [(0,.r5 0),(4,.ro Z .u8 all),(5,.r5 2)],[dg st r n,.b [.ro Z .u8 r,.ro I .u8 b],.b [.af .u32 64 kk]],Z⟩
section
variable (st r b kk all:pD) (n:Int)
def adI:(bh Q (adC Z) 60 1 5 (aH aB) ⟨aU f167.ntmps [.r5 0,.ro I .u8 b],[dg st r n],Z⟩).bind (St.cut [0,4,5] 3)=
  E {aS st r b (i64.wrap (n+A b)) nO [r,b].flatten with ob:=aa Z (aa Z (C ([r,b].flatten.length<=274877906944)&&Z))}:=by kernel_rfl
def aly:(exec Q (adC Z) 60 1 (aj (aj (aJ 5 aB))) (aS st r b n kk all)).bind (λr=>(r.2.cut [0,4,5] 3).map λq=>(r.1,q))=
  E (.normal,{aS (kC st (all.take 64) kk) r b n kk (all.drop 64) with ob:=aa (aa (aa (aa Z (C ((A all:Int)>=64))) (aa Z (Z&&C ((64:Int)<=A all)))) (aa Z (C (A st=8)&&C (A (all.take 64)=64)))) (aa Z (aa Z (Z&&C ((64:Int)<=A all))))}):=by kernel_rfl
def alz:(exec Q (adC I) 60 1 (aj (aj (aJ 5 aB))) (aS st r b n kk all)).bind (λr=>(r.2.cut [0,4,5] 3).map λq=>(r.1,q))=
  E (.exit 0,{aS st r b n kk all with ob:=aa Z (!C ((A all:Int)>=64))}):=by kernel_rfl
end
def adJ{st r b kk all} n(f:A st=8):Tr Q Y 1 (aJ 5 aB) (aS st r b n kk all) .normal (aS (ld all kk st (A all/64)) r b n kk (all.drop (64*(A all/64)))):=by
 have a:=Tr.loop (P:=Q) (ro:=Y) (k:=1) 0 (c:=aJ 5 aB) rfl (λj:Nat=>aS (ld all kk st j) r b n kk (all.drop (64*j))) (A all/64) (s':=aS (ld all kk st (A all/64)) r b n kk (all.drop (64*(A all/64)))) (λj g=>?_) ?_
 ·exact a
 ·have k:=aly (ld all kk st j) r b kk (all.drop (64*j)) n;have d:64<=A (all.drop (64*j)):=by rw[afj];omega
  rw[afu,Me (show(A (all.drop (64*j)):Int)>=64 by omega),Me (rV f j),Me (show((all.drop (64*j)).take 64).length=64 by rw[afN];omega)] at k;refine Tr.post (Tr.cut (D3 Z) 60 _ 3 (by omega) k rfl) (bG.bR ?_ rfl);show(aS [] r b 0 kk _).t=(aS [] r b 0 kk _).t;rw[show 64*j+64=64*(j+1) by omega]
 ·have k:=alz (ld all kk st (A all/64)) r b kk (all.drop (64*(A all/64))) n;have d:¬(A (all.drop (64*(all.length/64))):Int)>=64:=by rw[afj];omega
  exact Tr.post (Tr.cut (D3 I) 60 _ 3 (by omega) k (by rw[aaS d];rfl)) (bG.bR rfl rfl)
def alA{st r b} n(f:A st=8)(k:A r+A b<274877900000):ak Q 167 [.r5 0,.ro I .u8 b] [dg st r n] (.bP [])
  [dg (ld (r++b) nO st (A (r++b)/64)) ((r++b).drop (64*(A (r++b)/64))) (i64.wrap (n+A b))]:=by
 have l:A (r++b)=A r+A b:=abA;have a:=adI st r b n;have e:[r,b].flatten=r++b:=by simp
 rw[e,Me (show(r++b).length<=274877906944 by omega)] at a;generalize r++b=all at*;have g:A (all.drop (64*(all.length/64)))<=274877906944:=by rw[afj];omega
 have c:ak Q 167 [.r5 0,.ro I .u8 b] [dg st r n] (.bP [])
   [.b [.af .u32 8 (ld all nO st (A all/64)),.sl 3 0 0 1 (A (all.drop (64*(all.length/64)))) (A (all.drop (64*(all.length/64)))) I Z,.t6 (i64.wrap (n+A b))],.b [.ro Z .u8 r,.ro I .u8 b],.b [.af .u32 64 nO],.b [.af .u8 (A (all.drop (64*(all.length/64)))) (all.drop (64*(A all/64)))]]:=by
  refine ak.iH (D3 Z) 60 6 4 func167 (by simp) rfl (λs' x h=>?_) (s:=aS (ld all nO st (A all/64)) r b (i64.wrap (n+A b)) nO (all.drop (64*(A all/64))))
   (p:=aa (aa Z (aa Z (C (A (all.drop (64*(all.length/64)))<=274877906944)))) Z) (by kernel_rfl) (by rw[Me g];rfl) rfl rfl
  refine TrL.dM (D3 Z) 60 5 _ 3 (by simp) a rfl (by decide) ?_;exact TrL.dV 5 (by decide) (Tr.pre (adJ _ f) (bG.bR rfl rfl)) h
 generalize all.drop (64*(A all/64))=al at*;have d:=ak.fz 3 1 (by simp) (by simp) c (u:=.bP []) (h2:=[dg (ld all nO st (A all/64)) al (i64.wrap (n+A b))]) (p:=aa (C (A al=A al)) (aa Z (aa Z (Z&&(Z&&C (A al=A al)))))) rfl (by rw[Me rfl];rfl);exact d
def L0(vs:List SV)(_:List Blk):List Nat:=match vs with
 | .aG a _ _::_=>[a]
 |_=>[]
def auy:List SV->List Blk->Option (SV×List Blk×Bool)
 | [.aG 0 0 0,.ro I .u8 b],[.b [.af .u32 8 st,.ro Z .u8 r,.int .i64 n]]=>E (.bP [],[dg (ld (r++b) nO st (A (r++b)/64)) ((r++b).drop (64*(A (r++b)/64))) (i64.wrap (n+A b))],C (A st=8)&&C (A r+A b<274877900000))
 |_,_=>Y
def EV:aK Q:=.mut 167 _ func167 (by decide) rfl L0 0 auy λvs d v f e=>by
 unfold auy at e;split at e
 ·simp only[Mf,aad,No,aac] at e;have⟨rfl,rfl,c,a⟩:=e;exact alA _ c a
 ·cases e
def suC(x:Bool):cu:=mk [Mv,XU,D1,JW] [] λi=>if i=9 then E x else Y
def D4(x:Bool):aq Q (suC x):=au _ aN.nil _ _
def aCd:cu:=mk [Mv,XU,D1,JW] []
def adK:aq Q aCd:=au _ aN.nil _ _
def uB:Code:=aI f168
def uC:Code:=aJ 6 uB
def cG:pD:=t9 32 0
def uT:List (Option SV):=ag 52 [(2,.r5 1),(3,.r5 2),(4,.r5 3),(25,.fn (.func 250) [] [.r5 4,.r5 5])]
def uK(a r:pD)(n:Int)(p kk st:pD):List Blk:=[dg a r n,.b [.t5 cG],dg st r n,.b [.af .u32 64 kk],.b [.ro I .u8 p],.b [.t6 64]]
def uH(a r:pD)(n:Int)(p kk st:pD)(l:Nat):List Blk:=[dg a r n,.b [.t5 cG],dg st r n,.b [.af .u32 64 kk],.b [.ro I .u8 p],.b [.t6 64],.g (E (IA uC uT l))]
def uS(a r:pD)(n:Int)(p kk st:pD)(l:Nat)(i:Int):St:=⟨ag 31 [(0,.fn (.yield l) [] []),(1,.r5 4),(2,.r5 5),(4,.t6 i)],uH a r n p kk st l,Z⟩
def GH(p:pD)(i:Int):Int:=i64.wrap (i+if(A (p.drop (O i)):Int)<64 then(A (p.drop (O i)):Int) else 64)
def ckW(p:pD)(i:Int):pD:=(p.drop (O i)).take (O (GH p i)-O i)
def ckO(p st:pD)(i:Int)(l:Nat):Bool:=
 aa (aa (aa (aa Z (C (i<A p))) (aa Z (aa Z (C (0<=i)&&C (i<=A p)))))
  (aa (C (0<=GH p i)&&C (GH p i<=A p)) (aa (C (0<=GH p i)&&C (GH p i<=O (GH p i))) (C (0<=i)&&C (i<=O (GH p i))))))
  (aa (aa (aa (C (l=l)) (C (l=l))) (aa Z (C (A st=8)&&C (A (ckW p i)=64)))) (C (l=l)))
section
variable (yp r p kk st:pD) (n:Int) (l:Nat) (i:Int)
def alD:(exec Q (suC Z) 60 7 (aj (aj (aJ 1 D2))) (uS yp r n p kk st l i)).bind (λr=>(r.2.cut [0,1,2,4] 7).map λq=>(r.1,q))=
  E (.normal,{uS yp r n p kk (kC st (ckW p i) kk) l (i64.wrap (i+64)) with ob:=ckO p st i l}):=by kernel_rfl
def JY:(exec Q (suC I) 60 7 (aj (aj (aJ 1 D2))) (uS yp r n p kk st l i)).bind (λr=>(r.2.cut [0,1,2,4] 7).map λq=>(r.1,q))=
  E (.exit 0,{uS yp r n p kk st l i with ob:=aa Z (!C (i<A p))}):=by kernel_rfl
def X0:(bh Q (suC Z) 60 7 1 (aH D2) ⟨aU f250.ntmps [.fn (.yield l) [] [],.r5 4,.r5 5],uH yp r n p kk st l,Z⟩).bind (St.cut [0,1,2,4] 7)=E (uS yp r n p kk st l 0):=by kernel_rfl
end
def auB{p st}(g:A st=8){N j:Nat}(a:A p=64*N)(h:j<N)(k:N<10000000000)(l:Nat):ckW p (64*j:Nat)=(p.drop (64*j)).take 64/\ckO p st (64*j:Nat) l=Z:=by
 have d:A (p.drop (64*j))=64*N-64*j:=by rw[afj,a]
 have e:GH p (64*j:Nat)=((64*j+64:Nat):Int):=by
  unfold GH;rw[aaq,d,acB (by omega),aM _ (by omega) (by omega)];omega
 have c:ckW p (64*j:Nat)=(p.drop (64*j)).take 64:=by unfold ckW;rw[e,aaq,aaq,aic]
 refine⟨c,?_⟩;have f:A ((p.drop (64*j)).take 64)=64:=by rw[afN,d];omega
 unfold ckO;rw[c,e,f,g];simp[av,No,aac,true_and,aj7,aaq,a];repeat' apply And.intro;all_goals omega
def adL yp r n{p}{N:Nat}(d:A p=64*N)(m:N<10000000000) kk{st}(o:A st=8)(l:Nat):
  ak Q 250 [.fn (.yield l) [] [],.r5 4,.r5 5] (uH yp r n p kk st l) (.bP []) (uH yp r n p kk (ld p kk st N) l):=by
 have h:Tr Q Y 7 (aJ 1 D2) (uS yp r n p kk st l 0) .normal (uS yp r n p kk (ld p kk st N) l (64*N:Nat)):=by
  have a:=Tr.loop (P:=Q) (ro:=Y) (k:=7) 0 (c:=aJ 1 D2) rfl (λj:Nat=>uS yp r n p kk (ld p kk st j) l (64*j:Nat)) N (s':=uS yp r n p kk (ld p kk st N) l (64*N:Nat)) (λj e=>?_) ?_
  ·exact a
  ·have⟨q,g⟩:=auB (rV (p:=p) (kk:=kk) o j) d e m l;have k:=alD yp r p kk (ld p kk st j) n l (64*j:Nat);rw[q,g,aM _ (by omega) (by omega)] at k;refine Tr.post (Tr.cut (D4 Z) 60 _ 7 (by omega) k rfl) (bG.bR ?_ rfl);show(uS yp r n p kk st l _).t=(uS yp r n p kk st l _).t;rw[show((64*j:Nat):Int)+64=((64*(j+1):Nat):Int) by omega]
  ·have k:=JY yp r p kk (ld p kk st N) n l (64*N:Nat);exact Tr.post (Tr.cut (D4 I) 60 _ 7 (by omega) k (by rw[d];simp[aa])) (bG.bR rfl rfl)
 refine ak.mk (vs:=[]) func250 rfl (x:=.normal) (s:=uS yp r n p kk (ld p kk st N) l (64*N:Nat)) ?_ (.inr rfl) rfl;refine TrL.dM (D4 Z) 60 1 _ 7 (by simp[uH]) (X0 yp r p kk st n l) rfl (by decide) ?_;exact TrL.dV 1 (by decide) h ⟨rfl,rfl⟩
def E1(s:pD):pD:=(t8 32).map λi=>IntKind.u8.wrap (eF .u32 (X s (i/4) 0) (24-8*(i%4)))
def rJ(r:pD)(n:Int):pD:=gZ r 64 56++Qk n
def X1 r n:A (rJ r n)=64*(A (rJ r n)/64)/\A (rJ r n)<=A r+73:=by
 have h:=(vT (len:=A r) (show 56<64 by omega)).1;have d:e7 (A r) 64 56<64:=Nat.mod_lt _ (by omega);have a:A (rJ r n)=A r+1+e7 (A r) 64 56+8:=by unfold rJ;rw[abA,kV];rfl
 rw[a];omega
def qG(st r:pD)(n:Int):pD:=E1 (ld (rJ r n) nO st (A (rJ r n)/64))
def OR st r n:A (qG st r n)=32:=by simp[qG,E1]
def adM st r n:(bh Q (suC Z) 60 1 6 (aH uB) ⟨aU f168.ntmps [.r5 0],[dg st r n],Z⟩).bind (St.cut [2,3,4,25] 6)=
  E ⟨uT,uK st r n (rJ r n) nO st,aa Z (aa Z (C (A r<274877900000)))⟩:=by kernel_rfl
theorem alE{st r:pD}(n:Int)(d:st.length=8)(c:r.length<274877900000):ak Q 168 [.r5 0] [dg st r n] (.sM (qG st r n)) [dg st r n]:=by
 obtain⟨a,e⟩:=X1 r n
 unfold qG
 generalize hN:(rJ r n).length/64=N at a
 refine ak.iH adK 60 7 1 func168 (by simp) rfl (λs' x h=>?_) (s:=⟨uT,uK st r n (rJ r n) nO (ld (rJ r n) nO st N)++[.gap],true⟩) (p:=true) (by kernel_rfl) rfl rfl rfl
 refine TrL.dM (D4 true) 60 6 _ 6 (by simp) (adM st r n) (by rw[Me c];rfl) (by decide) ?_
 refine TrL.dV 6 (by decide) ?_ h
 exact Tr.zi 0 (by kernel_rfl) (f:=250) (first:=[]) (nM:=[.r5 4,.r5 5]) true func250 (by decide) rfl (by kernel_rfl) (λl=>adL st r n a (by omega) nO d l)
  (λl=>⟨_,rfl,rfl,by simp[IA],rfl⟩) (λl=>rfl)
def Xj(vs:List SV):List Nat:=match vs with
 | [.aG a _ _]=>[a]
 |_=>[]
def auC:List SV->List Blk->Option (SV×Bool)
 | [.aG 0 0 0],[.b [.af .u32 8 st,.ro Z .u8 r,.int .i64 n]]=>E (.sM (qG st r n),C (A st=8)&&C (A r<274877900000))
 |_,_=>Y
def arb:aK Q:=.rdm 168 _ func168 (by decide) rfl Xj auC λvs d v e=>by
 unfold auC at e;split at e
 ·simp[Mf,aad,No,aac] at e;have⟨rfl,c,a⟩:=e;exact alE _ c a
 ·cases e
def AP(p:pD)(j:Nat):(p.drop (64*j)).take 64=(p.take (64*(j+1))).drop (64*j):=by rw[ahB,show 64*(j+1)-64*j=64 by omega]
def AQ{p q} kk s:∀j,p.take (64*j)=q.take (64*j)->ld p kk s j=ld q kk s j
 |0,_=>rfl
 |j+1,h=>by
  have a:p.take (64*j)=q.take (64*j):=by have:=ahV (List.take (64*j)) h;rwa [ahy,ahy,agK (by omega)] at this
  simp[ld];rw[AQ kk s j a,AP,AP,h]
def xj p kk s(N:Nat):∀j,ld p kk s (N+j)=ld (p.drop (64*N)) kk (ld p kk s N) j
 |0=>rfl
 |j+1=>by show kC (ld p kk s (N+j)) ((p.drop (64*(N+j))).take 64) kk=kC ..;rw[xj ..,afu,show 64*N+64*j=64*(N+j) by omega]
def HL(xs:pD):Blk:=dg (ld xs nO uZ (A xs/64)) (xs.drop (64*(A xs/64))) (A xs)
def KQ xs b:ld (xs.drop (64*(A xs/64))++b) nO (ld xs nO uZ (A xs/64)) (A (xs.drop (64*(xs.length/64))++b)/64)=ld (xs++b) nO uZ (A (xs++b)/64)/\
  (xs.drop (64*(A xs/64))++b).drop (64*(A (xs.drop (64*(xs.length/64))++b)/64))=(xs++b).drop (64*(A (xs++b)/64)):=by
 have hN:64*(A xs/64)<=A xs:=by omega
 generalize g:A xs/64=N at*;have e:xs.drop (64*N)++b=(xs++b).drop (64*N):=(agj hN).symm;have c:ld xs nO uZ N=ld (xs++b) nO uZ N:=AQ _ _ _ (by rw[afk hN]);have d:A ((xs++b).drop (64*N))=A (xs++b)-64*N:=afj ..;have f:A xs<=A (xs++b):=by simp
 have a:A (xs++b)/64=N+A ((xs++b).drop (64*N))/64:=by rw[d];omega
 rw[e,c, <-xj,a,afu,show 64*N+64*(A ((xs++b).drop (64*N))/64)=64*(N+A ((xs++b).drop (64*N))/64) by omega];exact⟨rfl,rfl⟩
def vV(xs:pD):pD:=rJ xs (A xs)
def cI(xs:pD):pD:=lQ (E1 (ld (vV xs) nO uZ (A (vV xs)/64)))
def mo xs:A (cI xs)=32:=by rw[cI,bD];simp[E1]
def rT xs:∀x∈cI xs,0<=x/\x<256:=by intro x a;simp[cI,bD,E1,ajj] at a;obtain⟨i,_,rfl⟩:=a;simp only[IntKind.wrap,IntKind.signed,IntKind.bits];simp;omega
def KR xs:qG (ld xs nO uZ (A xs/64)) (xs.drop (64*(A xs/64))) (A xs)=cI xs:=by
 have hN:64*(A xs/64)<=A xs:=by omega
 generalize h:A xs/64=N at*;have g:A (xs.drop (64*N))=A xs-64*N:=afj ..;have c:e7 (A (xs.drop (64*N))) 64 56=e7 (A xs) 64 56:=by unfold e7;rw[g];omega
 have e:rJ (xs.drop (64*N)) (A xs)=(vV xs).drop (64*N):=by
  unfold vV rJ gZ
  rw[c,aeH,aeH,aeH,aeH,agj hN]
 have d:ld xs nO uZ N=ld (vV xs) nO uZ N:=AQ _ _ _ (by
  unfold vV rJ gZ
  rw[aeH,aeH,afk hN])
 have f:A ((vV xs).drop (64*N))=A (vV xs)-64*N:=afj ..
 have j:A xs<=A (vV xs):=by unfold vV rJ gZ;simp only[abA];omega
 have a:A (vV xs)/64=N+A ((vV xs).drop (64*N))/64:=by rw[f];omega
 rw[qG,cI,bD,e,d, <-xj,a]
def hC(x:Bool):cu:=mk [ara,EV,arb] [] λi=>if i=10 then E x else Y
def My(x:Bool):aq Q (hC x):=au _ aN.nil _ _
def hB:Code:=aI f119
def hS(a:List pD)(d:Blk)(i:Int):St:=⟨ag 19 [(2,.r5 0),(3,.r5 1),(7,.iX I a),(8,.t6 (A a)),(9,.t6 i)],[.b [.t5 cG],d],Z⟩
section
variable (xss:List pD) (st r:pD) (n i:Int)
def alF:(bh Q (hC Z) 60 0 3 (aH hB) ⟨aU f119.ntmps [.iX I xss],[],Z⟩).bind (St.cut [2,3,7,8,9] 2)=E (hS xss (dg uZ [] 0) 0):=by kernel_rfl
def auD:(exec Q (hC Z) 60 0 (aj (aj (aJ 3 hB))) (hS xss (dg st r n) i)).bind (λr=>(r.2.cut [2,3,7,8,9] 2).map λq=>(r.1,q))=
  E (.normal,{hS xss (dg (ld (r++X xss (O i) []) nO st (A (r++xss.getD i.toNat [])/64)) ((r++X xss (O i) []).drop (64*(A (r++xss.getD i.toNat [])/64))) (i64.wrap (n+A (xss.getD i.toNat [])))) (i64.wrap (i+1)) with
   ob:=aa (aa (aa (aa Z (C (i<A xss))) (bC i (A xss))) (C (O i<A xss))) (aa Z (C (A st=8)&&C (A r+A (xss.getD i.toNat [])<274877900000)))}):=by kernel_rfl
def auE:(exec Q (hC I) 60 0 (aj (aj (aJ 3 hB))) (hS xss (dg st r n) i)).bind (λr=>(r.2.cut [2,3,7,8,9] 2).map λq=>(r.1,q))=
  E (.exit 0,{hS xss (dg st r n) i with ob:=aa Z (!C (i<A xss))}):=by kernel_rfl
end
def rU{xss:List pD}{j:Nat}(h:j<A xss):(xss.take (j+1)).flatten=(xss.take j).flatten++X xss j []:=by rw[List.take_add_one,List.flatten_append,abQ,aaQ h];simp
def EW(xss:List pD)(j:Nat):(xss.take j).flatten.length<=A xss.flatten:=by
 conv=>rhs;rw[<-afA j xss,List.flatten_append,abA]
 omega
def X2{xss}(h1:A xss.flatten<274877900000)(h2:A xss<=274877906944):ak Q 119 [.iX I xss] [] (.sM (cI xss.flatten)) []:=by
 have g:Tr Q Y 0 (aJ 3 hB) (hS xss (HL []) 0) .normal (hS xss (HL xss.flatten) (A xss)):=by
  have a:=Tr.loop (P:=Q) (ro:=Y) (k:=0) 0 (c:=aJ 3 hB) rfl (λj:Nat=>hS xss (HL (xss.take j).flatten) j) (A xss) (s':=hS xss (HL xss.flatten) (A xss)) (λj d=>?_) ?_
  ·exact a
  ·generalize e:(xss.take j).flatten=xs;have m:=EW xss (j+1);rw[rU d,e,abA] at m;have k:=auD xss (ld xs nO uZ (A xs/64)) (xs.drop (64*(A xs/64))) (A xs) j;have⟨e1,e2⟩:=KQ xs (X xss j []);rw[aaq,e1,e2,aM (_+_) (by omega) (by omega),aM _ (by omega) (by omega),Me (rV u7 _),Me (show(xs.drop (64*(A xs/64))).length+A (X xss j [])<274877900000 by rw[afj];omega),
    Me (show(j:Int)<A xss by omega),dB (by omega) (by omega),Me d] at k
   refine Tr.post (Tr.cut (My Z) 60 _ 2 (by omega) k rfl) (bG.bR ?_ ?_)
   ·show(hS xss (HL []) _).t=(hS xss (HL []) _).t;rw[show((j:Int)+1)=((j+1:Nat):Int) by omega]
   ·show[_,_]=[_,_];rw[rU d,e];unfold HL;rw[abA,Int.natCast_add]
  ·have k:=auE xss (ld xss.flatten nO uZ (A xss.flatten/64)) (xss.flatten.drop (64*(A xss.flatten/64))) (A xss.flatten) (A xss);rw[agW];exact Tr.post (Tr.cut (My I) 60 _ 2 (by omega) k (by simp[aa])) (bG.bR rfl rfl)
 rw[<-KR];refine ak.iH (My Z) 60 4 0 func119 (by simp) rfl (λs' x h=>?_) (s:=hS xss (HL xss.flatten) (A xss))
  (p:=aa Z (aa Z (C (A (ld xss.flatten nO uZ (xss.flatten.length/64))=8)&&C (A (xss.flatten.drop (64*(xss.flatten.length/64)))<274877900000)))) rfl ?_ rfl rfl
 ·refine TrL.dM (My Z) 60 3 _ 2 (by simp) (alF xss) rfl (by decide) ?_;exact TrL.dV 3 (by decide) (Tr.pre g (bG.bR rfl rfl)) h
 ·rw[Me (rV u7 _),Me (show(xss.flatten.drop (64*(xss.flatten.length/64))).length<274877900000 by rw[afj];omega)];rfl
def X3:List SV->Option (SV×List Blk×Bool)
 | [.iX I xss]=>E (.sM (cI xss.flatten),[],C (A xss.flatten<274877900000)&&C (A xss<=274877906944))
 |_=>Y
def wz:aK Q:=.val 119 _ func119 (by decide) rfl Z 0 X3 λvs v new e=>by
 unfold X3 at e;split at e
 ·simp only[Mf,aad,No,aac] at e;have⟨rfl,rfl,c,a⟩:=e;exact X2 c a
 ·cases e
end S2
end Go.Proofs.YthlnlcijnoadcaaGreatDoor
namespace Go.Sy
variable {P:Program}
def bG.nothing{k:Nat}{t h o o'}(i:Nat) K ex wh(hi:t[i]?=E (E (.nl (.slice Y 0 0)))):
  bG k ⟨t,h,o⟩ ⟨t.set i (E (.sl (A h) 0 0 1 0 0 ex wh)),h++[.b [.af K 0 []]],o'⟩:=λB e w m _ f R=>⟨e,rfl,⟨by simpa using f.1,λj v d a c=>by
  rw[List.getElem?_set] at a;split at a
  ·rename_i q;subst q;split at a
   ·simp[Mf] at a;subst a;have g:=f.2 _ _ d hi c;exact .inl ⟨rfl,rfl,Y,g⟩
   ·cases a
  ·exact f.2 j v d a c⟩,by have:=R.nothing (ps:=[.af K 0 []]) (.inl rfl) rfl;unfold cO at this;rw[ae8 rfl] at this;exact this⟩
end Go.Sy
namespace Go.Proofs.YthlnlcijnoadcaaGreatDoor
namespace Sh
open Sy
def axi:Option (SV×List Blk×Bool)->pD
 |some (_,[.b [.af _ _ l]],_)=>l
 |_=>[]
def Qp:ak Q 169 [] [] (.ro Z .u64 kL) []:=
 ak.frozen (N:=80) (ex:=Z) (wh:=Z) (ak.bZ ru func169 (n:=60) rfl) rfl
def Qq:ak Q 122 [] [] (.ro Z .u64 bL) []:=
 ak.frozen (N:=8) (ex:=Z) (wh:=Z) (ak.bZ ru func122 (n:=60) rfl) rfl
def Mz:List SV->Option (SV×List Blk×Bool)
 | []=>E (.ro Z .u64 kL,[],Z)
 |_=>Y
def ac5:aK Q:=.val 169 _ func169 (by decide) rfl I 0 Mz λvs v new e=>by
 unfold Mz at e;split at e
 ·cases e;exact Qp
 ·cases e
def MA:List SV->Option (SV×List Blk×Bool)
 | []=>E (.ro Z .u64 bL,[],Z)
 |_=>Y
def ac6:aK Q:=.val 122 _ func122 (by decide) rfl I 0 MA λvs v new e=>by
 unfold MA at e;split at e
 ·cases e;exact Qq
 ·cases e
def qB:Code:=aI f124
def qC(b:Bool):cu:=mk (P:=Q) [] [] λi=>if i=23 then E b else Y
def Cf b:aq Q (qC b):=au _ aN.nil _ _
def qS(m:Nat)(l xs:pD)(pc sz:Int):St:=⟨ag 62 [(0,.ro I .u8 xs),(1,.t6 pc),(2,.t6 sz),(7,.sl 0 0 0 1 m m I Z)],[.b [.af .u8 m l]],Z⟩
section
variable (m:Nat) (l xs:pD) (pc sz:Int)
def MB:(bh Q (qC Z) 60 0 2 (aH qB) ⟨aU f124.ntmps [.ro I .u8 xs,.t6 pc,.t6 sz],[],Z⟩).bind (St.cut [0,1,2,7] 1)=
  E {qS (0+A xs+1) (xs++[128]) xs pc sz with ob:=aa (aa Z (aa Z (C (0+A xs<=2^38)))) (apO (A xs) (0+A xs))}:=by kernel_rfl
def alG:(exec Q (qC Z) 60 0 (aj (aj (aJ 2 qB))) (qS m l xs pc sz)).bind (λr=>(r.2.cut [0,1,2,7] 1).map λq=>(r.1,q))=
  E (.normal,{qS (m+1) (l++[0]) xs pc sz with ob:=aa (aa (aa Z (pc != 0)) ((m:Int).tmod pc != i64.wrap (pc-sz))) (apO (A l) m)}):=by kernel_rfl
def alI:(exec Q (qC I) 60 0 (aj (aj (aJ 2 qB))) (qS m l xs pc sz)).bind (λr=>(r.2.cut [0,1,2,7] 1).map λq=>(r.1,q))=
  E (.exit 0,{qS m l xs pc sz with ob:=aa (aa Z (pc != 0)) (!((m:Int).tmod pc != i64.wrap (pc-sz)))}):=by kernel_rfl
end
def MC{xs}{pc sz q:Nat}(hq:q+sz=pc)(hsz:0<sz)(hpc:pc<1000)(hx:A xs<274877900000):
  Tr Q Y 0 (aJ 2 qB) (qS (A xs+1) (xs++[128]) xs pc sz) .normal (qS (A xs+1+e7 (A xs) pc q) (gZ xs pc q) xs pc sz):=by
 have⟨k1,k2⟩:=vT (len:=A xs) (show q<pc by omega);have hK:e7 (A xs) pc q<pc:=Nat.mod_lt _ (by omega);have a:((pc:Int) != 0)=Z:=bne_iff_ne.2 (by omega);have g:i64.wrap ((pc:Int)-(sz:Int))=(q:Int):=by rw[aM _ (by omega) (by omega)];omega
 have e:∀j:Nat,((A xs+1+j:Nat):Int).tmod (pc:Int)=(((A xs+1+j)%pc:Nat):Int):=λj=>by rw[afS (by omega),Int.natCast_emod]
 have d:=Tr.loop (P:=Q) (ro:=Y) (k:=0) 0 (c:=aJ 2 qB) rfl (λj:Nat=>qS (A xs+1+j) (xs++[128]++t9 j 0) xs pc sz) (e7 (A xs) pc q) (s':=qS (A xs+1+e7 (A xs) pc q) (gZ xs pc q) xs pc sz) (λj hj=>?_) ?_
 ·refine Tr.pre d (bG.bR rfl ?_);show[_]=[_];simp
 ·have k:=alG (A xs+1+j) (xs++[128]++t9 j 0) xs pc sz;have hl:A (xs++[128]++t9 j 0)=A xs+1+j:=by simp;omega
  rw[a,e,g,hl,jW (by omega),bne_iff_ne.2 (show(((A xs+1+j)%pc:Nat):Int)≠((q:Nat):Int) from λh=>k2 j hj (by omega))] at k;refine Tr.post (Tr.cut (Cf Z) 60 _ 1 (by omega) k rfl) (bG.bR rfl ?_);show[_]=[_];rw[List.replicate_succ', <-aeH];rfl
 ·have k:=alI (A xs+1+e7 (A xs) pc q) (gZ xs pc q) xs pc sz;rw[a,e,g,k1] at k;exact Tr.post (Tr.cut (Cf I) 60 _ 1 (by omega) k (by simp[aa])) (bG.bR rfl rfl)
def dQ(n:Int):Nat->Int
 |0=>i64.wrap (n.tdiv 32)
 |i+1=>i64.wrap ((dQ n i).tdiv 256)
def rI(n:Int):Nat->Int
 |0=>IntKind.u8.wrap (i64.wrap (n.tmod 32*8))
 |i+1=>IntKind.u8.wrap ((dQ n i).tmod 256)
def qL(l:pD)(n:Int)(sz:Nat):Nat->pD
 |0=>l
 |i+1=>qL l n sz i++[rI n (sz-1-i)]
def qO(l:pD)(n:Int)(sz m:Nat):Nat->Bool
 |0=>Z
 |i+1=>aa (qO l n sz m i) (apO (A (qL l n sz i)) (m+i))
def D5 l n(sz:Nat):∀i,A (qL l n sz i)=A l+i
 |0=>rfl
 |i+1=>by rw[qL,abA,D5 ..];rfl
def rX{l} n(sz:Nat){m:Nat}(h:A l=m)(a:m<274877901000):∀i,i<1000->qO l n sz m i=Z
 |0,_=>rfl
 |i+1,c=>by rw[qO,rX n sz h a i (by omega),D5,h,jW (by omega)];rfl
def X4 l n(sz:Nat):∀i,qL l n sz i=l++(t8 i).map λj=>rI n (sz-1-j)
 |0=>by simp[qL]
 |i+1=>by rw[qL,X4 ..,List.range_succ,List.map_append,aeH];rfl
def Ql(n:Int)(sz:Nat):pD:=(t8 sz).map λj=>rI n (sz-1-j)
theorem adN{xs:pD}(d:A xs<274877900000):ak Q 124 [.ro I .u8 xs,.t6 128,.t6 16] [] (.ro Z .u8 (gZ xs 128 112++Ql (A xs) 16)) []:=by
 have f:e7 (A xs) 128 112<128:=Nat.mod_lt _ (by omega)
 have c:=kV xs 128 112
 have e:=X4 (gZ xs 128 112) (A xs) 16 16
 show ak Q 124 [.ro I .u8 xs,.t6 128,.t6 16] [] (.ro Z .u8 (gZ xs 128 112++(t8 16).map λj=>rI (A xs) (16-1-j))) []
 rw[<-e]
 refine ak.frozen (N:=A xs+1+e7 (A xs) 128 112+16) (ex:=I) (wh:=Z) ?_ (by rw[D5,c])
 refine ak.iH (Cf I) 60 3 1 func124 (by simp) rfl (λs' x h=>?_) (s:=qS (A xs+1+e7 (A xs) 128 112) (gZ xs 128 112) xs 128 16)
  (p:=qO (gZ xs 128 112) (A xs) 16 (A xs+1+e7 (A xs) 128 112) 16) (by kernel_rfl) (rX _ _ c (by omega) _ (by omega)) rfl rfl
 have a:=MB xs 128 16
 rw[af8] at a
 refine TrL.dM (Cf Z) 60 2 _ 1 (by simp) a (by rw[jW (by omega),Me (by omega)];rfl) (by decide) ?_
 exact TrL.dV 2 (by decide) (Tr.pre (MC (pc:=128) (sz:=16) (q:=112) rfl (by decide) (by decide) d) (bG.bR rfl rfl)) h
theorem X5{xs}(d:A xs<274877900000):ak Q 124 [.ro I .u8 xs,.t6 64,.t6 8] [] (.ro Z .u8 (gZ xs 64 56++Ql (A xs) 8)) []:=by
 have f:e7 (A xs) 64 56<64:=Nat.mod_lt _ (by omega);have c:=kV xs 64 56
 have e:=X4 (gZ xs 64 56) (A xs) 8 8
 show ak Q 124 [.ro I .u8 xs,.t6 64,.t6 8] [] (.ro Z .u8 (gZ xs 64 56++(t8 8).map λj=>rI (A xs) (8-1-j))) []
 rw[<-e]
 refine ak.frozen (ex:=I) (wh:=Z) ?_ (by rw[D5,c])
 refine ak.iH (Cf I) 60 3 1 func124 (by simp) rfl (λs' x h=>?_) (s:=qS (A xs+1+e7 (A xs) 64 56) (gZ xs 64 56) xs 64 8)
  (p:=qO (gZ xs 64 56) (A xs) 8 (A xs+1+e7 (A xs) 64 56) 8) (by kernel_rfl) (rX _ _ c (by omega) _ (by omega)) rfl rfl
 have a:=MB xs 64 8
 rw[af8] at a
 refine TrL.dM (Cf Z) 60 2 _ 1 (by simp) a (by rw[jW (by omega),Me (by omega)];rfl) (by decide) ?_
 exact TrL.dV 2 (by decide) (Tr.pre (MC (pc:=64) (sz:=8) (q:=56) rfl (by decide) (by decide) d) (bG.bR rfl rfl)) h
def aCf(xs:pD):pD:=gZ xs 128 112++Ql (A xs) 16
def jx(xs:pD):pD:=gZ xs 64 56++Ql (A xs) 8
def agF:List SV->Option (SV×List Blk×Bool)
 | [.ro I .u8 xs,.int .i64 pc,.int .i64 sz]=>bif pc==128&&sz==16 then E (.ro Z .u8 (aCf xs),[],C (A xs<274877900000)) else bif pc==64&&sz==8 then E (.ro Z .u8 (jx xs),[],C (A xs<274877900000)) else Y
 |_=>Y
def atZ:aK Q:=.val 124 _ func124 (by decide) rfl Z 0 agF λvs v new e=>by
 unfold agF at e;split at e
 ·rename_i xs pc sz;by_cases c:(pc==128&&sz==16)=Z
  ·rw[c] at e;simp[No,afP] at c;obtain⟨rfl,rfl⟩:=c;simp only[aja,Mf,aad,aac] at e;have⟨rfl,rfl,h⟩:=e;exact adN h
  ·rw[aj2] at c;rw[c] at e;by_cases a:(pc==64&&sz==8)=Z
   ·rw[a] at e;simp[No,afP] at a;obtain⟨rfl,rfl⟩:=a;simp only[aja,ajB,Mf,aad,aac] at e;have⟨rfl,rfl,h⟩:=e;exact X5 h
   ·rw[aj2] at a;rw[a] at e;cases e
 ·cases e
end Sh
namespace Q2
open Sy Sh
abbrev V(n:Int):Int:=IntKind.u32.wrap n
def AL(x n:Int):Int:=V (eF .u32 x (O n)+jz .u32 x (O (Sh.W (32-n))))
def agt:List SV->Option (SV×List Blk×Bool)
 | [.int .u32 x,.int .u64 n]=>E (.int .u32 (AL x n),[],C (0<=n))
 |_=>Y
def atY:aK Q:=.val 125 _ func125 (by decide) rfl I 0 agt λvs v new e=>by
 unfold agt at e
 split at e
 ·rename_i x n
  simp only[Mf,aad,aac] at e
  have⟨rfl,rfl,h⟩:=e
  exact aP ru 60 func125 (p:=aa (aa Z (C (0<=n))) (W0 (32-n))) (by kernel_rfl) (by rw[Mo,Me h];rfl) rfl
 ·cases e
def sqC:cu:=mk [ac5] []
def akQ:aq Q sqC:=au _ aN.nil _ _
theorem JI:ak Q 123 [] [] (.ro Z .u32 S2.nO) []:=
 ak.frozen (N:=64) (ex:=I) (wh:=Z) (ak.yY [1] (qA akQ 200 func123 2 (by simp) (v:=.sl 1 0 0 1 64 64 I Z) (h1:=[.b [.af .u32 1 [1116352408]],.b [.af .u32 64 S2.nO]]) (p:=Z) (by kernel_rfl) rfl rfl rfl) (by kernel_rfl)) (by kernel_rfl)
def Gx:List SV->Option (SV×List Blk×Bool)
 | []=>E (.ro Z .u32 S2.nO,[],Z)
 |_=>Y
def Xp:aK Q:=.val 123 _ func123 (by decide) rfl I 0 Gx λvs v new e=>by
 unfold Gx at e;split at e
 ·cases e;exact JI
 ·cases e
def rB:Code:=aI f79
def rO:Code:=aj (aj (aJ 8 rB))
def r3:Code:=aj (aJ 2 rO)
def rC(a b c d:Bool):cu:=mk [Xp,ac6,atY,atZ] [] λi=>if i=42 then E a else if i=46 then E b else if i=86 then E c else if i=133 then E d else if i=130 then E Z else if i=84 then E Z else Y
def lI a b c d:aq Q (rC a b c d):=au _ aN.nil _ _
def chQ(e f g:Int):Int:=gJ .u32 (fj .u32 e f) (fj .u32 (V (4294967295-e)) g)
def tnQ(x a b c:Int):Int:=gJ .u32 (gJ .u32 (AL x a) (AL x b)) (AL x c)
def t1Q(s:pD)(k w:Int):Int:=V (V (V (V (X s 7 0+tnQ (X s 4 0) 6 11 25)+chQ (X s 4 0) (X s 5 0) (X s 6 0))+k)+w)
def t2Q(s:pD):Int:=V (tnQ (X s 0 0) 2 13 22+S2.mjW (X s 0 0) (X s 1 0) (X s 2 0))
def JJ(s:pD)(k w:Int):pD:=[V (t1Q s k w+t2Q s),X s 0 0,X s 1 0,X s 2 0,V (X s 3 0+t1Q s k w),X s 4 0,X s 5 0,X s 6 0]
def nxQ(y x a b:Int):Int:=V (V (V (gJ .u32 (gJ .u32 (AL y 17) (AL y 19)) (eF .u32 y 10)+a)+gJ .u32 (gJ .u32 (AL x 7) (AL x 18)) (eF .u32 x 3))+b)
def ix(a i:Int):Int:=i64.wrap (a+i64.wrap (4*i))
def wq(p:pD)(q:Int):Int:=V (V (V (V (V (X p (O q) 0)*16777216)+V (V (X p (O (i64.wrap (q+1))) 0)*65536))+V (V (X p (O (i64.wrap (q+2))) 0)*256))+V (X p (O (i64.wrap (q+3))) 0))
def nxJ(w:pD)(i:Int):Int:=nxQ (X w (0+O (i64.wrap (i-2))) 0) (X w (0+O (i64.wrap (i-15))) 0) (X w (0+O (i64.wrap (i-7))) 0) (X w (0+O (i64.wrap (i-16))) 0)
def nxP(i:Int)(n _l:Nat):Bool:=aa (aa (aa (aa (aa (aa (aa (aa (aa (aa Z (C (i<64))) (bC (i64.wrap (i-15)) n)) (C (0+O (i64.wrap (i-15))<n))) (bC (i64.wrap (i-2)) n)) (C (0+O (i64.wrap (i-2))<n)))
 (bC (i64.wrap (i-7)) n)) (C (0+O (i64.wrap (i-7))<n))) (bC (i64.wrap (i-16)) n)) (C (0+O (i64.wrap (i-16))<n))) (apO _l n)
def sO(p kk h:pD)(i:Int):St:=⟨ag 252 [(2,.r5 0),(4,.r5 1),(6,.ro Z .u32 kk),(7,.ro Z .u8 p),(8,.t6 i)],[.b [.t5 S2.cG],.b [.af .u32 8 (cD 8 h)]],Z⟩
def sN(p kk h:pD)(a:Int):St:=⟨ag 252 [(2,.r5 0),(4,.r5 1),(6,.ro Z .u32 kk),(7,.ro Z .u8 p),(8,.t6 a),(9,.nl (.slice Y 0 0)),(10,.t6 0)],[.b [.t5 S2.cG],.b [.af .u32 8 (cD 8 h)]],Z⟩
def sA(p kk h:pD)(a:Int)(n:Nat)(w:pD)(i:Int):St:=⟨ag 252 [(2,.r5 0),(4,.r5 1),(6,.ro Z .u32 kk),(7,.ro Z .u8 p),(8,.t6 a),(9,.sl 2 0 0 1 n n I Z),(10,.t6 i)],[.b [.t5 S2.cG],.b [.af .u32 8 (cD 8 h)],.b [.af .u32 n w]],Z⟩
def sB(p kk h:pD)(a:Int)(n:Nat)(w:pD)(i:Int):St:=⟨ag 252 [(2,.r5 0),(4,.r5 1),(6,.ro Z .u32 kk),(7,.ro Z .u8 p),(8,.t6 a),(9,.sl 2 0 0 1 n n I Z),(12,.t6 i)],[.b [.t5 S2.cG],.b [.af .u32 8 (cD 8 h)],.b [.af .u32 n w]],Z⟩
def sC(p kk h:pD)(a:Int)(n:Nat)(w s:pD)(i:Int):St:=⟨ag 252 [(2,.r5 0),(4,.r5 1),(6,.ro Z .u32 kk),(7,.ro Z .u8 p),(8,.t6 a),(9,.sl 2 0 0 1 n n I Z),(15,.r5 3),(16,.t6 i)],[.b [.t5 S2.cG],.b [.af .u32 8 (cD 8 h)],.b [.af .u32 n w],.b [.af .u32 8 (cD 8 s)]],Z⟩
def sD(p kk h:pD)(a:Int)(n:Nat)(w s:pD):St:=⟨ag 252 [(2,.r5 0),(4,.r5 1),(6,.ro Z .u32 kk),(7,.ro Z .u8 p),(8,.t6 a),(15,.r5 3),(20,.t6 0)],[.b [.t5 S2.cG],.b [.af .u32 8 (cD 8 h)],.b [.af .u32 n w],.b [.af .u32 8 (cD 8 s)]],Z⟩
def oq(p:pD)(q i:Int):Bool:=aa (aa (aa (aa (aa (aa (aa (aa (aa Z (C (i<16))) (bC q (A p))) (C (O q<A p))) (bC (i64.wrap (q+1)) (A p))) (C (O (i64.wrap (q+1))<A p)))
 (bC (i64.wrap (q+2)) (A p))) (C (O (i64.wrap (q+2))<A p))) (bC (i64.wrap (q+3)) (A p))) (C (O (i64.wrap (q+3))<A p))
section
variable (p kk h w s:pD) (n:Nat) (a i:Int)
def ac8:(bh Q (rC Z Z Z Z) 60 0 2 (aH rO) (sO p kk h a)).bind (St.cut [2,4,6,7,8] 2)=E {sO p kk h a with ob:=aa Z (C (a<A p))}:=by kernel_rfl
def ac9:(exec Q (rC Z Z Z Z) 60 0 (aJ 3 rO) (sO p kk h a)).bind (λr=>(r.2.cut [2,4,6,7,8] 2).map λq=>(r.1,q))=E (.normal,sO p kk h (i64.wrap (a+64))):=by kernel_rfl
def akR:(exec Q (rC I Z Z Z) 60 0 rO (sO p kk h a)).bind (λr=>(r.2.cut [2,4,6,7,8] 2).map λq=>(r.1,q))=E (.exit 2,{sO p kk h a with ob:=aa Z (!C (a<A p))}):=by kernel_rfl
def ada:(bh Q (rC Z Z Z Z) 60 0 2 (aH r3) (sO p kk h a)).bind (St.cut [2,4,6,7,8,9,10] 2)=E (sN p kk h a):=by kernel_rfl
def akS:(exec Q (rC Z Z Z Z) 60 0 (aj (aj (aJ 2 r3))) (sA p kk h a n w i)).bind (λr=>(r.2.cut [2,4,6,7,8,9,10] 3).map λq=>(r.1,q))=
  E (.normal,{sA p kk h a (n+1) (w++[wq p (ix a i)]) (i64.wrap (i+1)) with ob:=aa (oq p (ix a i) i) (apO (A w) n)}):=by kernel_rfl
def akT:(exec Q (rC Z I Z Z) 60 0 (aj (aj (aJ 2 r3))) (sA p kk h a n w i)).bind (λr=>(r.2.cut [2,4,6,7,8,9,10] 3).map λq=>(r.1,q))=
  E (.exit 4,{sA p kk h a n w i with ob:=aa Z (!C (i<16))}):=by kernel_rfl
def adb:(bh Q (rC Z Z Z Z) 60 0 1 ((aH r3).drop 3) (sA p kk h a n w i)).bind (St.cut [2,4,6,7,8,9,12] 3)=E (sB p kk h a n w 16):=by kernel_rfl
def akU:(exec Q (rC Z Z Z Z) 60 0 (aj (aj (aJ 4 r3))) (sB p kk h a n w i)).bind (λr=>(r.2.cut [2,4,6,7,8,9,12] 3).map λq=>(r.1,q))=
  E (.normal,{sB p kk h a (n+1) (w++[nxJ w i]) (i64.wrap (i+1)) with ob:=nxP i n (A w)}):=by kernel_rfl
def akV:(exec Q (rC Z Z I Z) 60 0 (aj (aj (aJ 4 r3))) (sB p kk h a n w i)).bind (λr=>(r.2.cut [2,4,6,7,8,9,12] 3).map λq=>(r.1,q))=
  E (.exit 6,{sB p kk h a n w i with ob:=aa Z (!C (i<64))}):=by kernel_rfl
def Xq:(bh Q (rC Z Z Z Z) 60 0 2 ((aH r3).drop 5) (sB p kk h a n w i)).bind (St.cut [2,4,6,7,8,9,15,16] 4)=E (sC p kk h a n w h 0):=by kernel_rfl
def ade:(exec Q (rC Z Z Z Z) 60 0 (aj (aj (aJ 7 r3))) (sC p kk h a n w s i)).bind (λr=>(r.2.cut [2,4,6,7,8,9,15,16] 4).map λq=>(r.1,q))=
  E (.normal,{sC p kk h a n w (JJ (cD 8 s) (X kk (O i) 0) (X w (0+O i) 0)) (i64.wrap (i+1)) with ob:=aa (aa (aa (aa (aa Z (C (i<64))) (bC i (A kk))) (C (O i<A kk))) (bC i n)) (C (0+O i<n))}):=by kernel_rfl
def adf:(exec Q (rC Z Z Z I) 60 0 (aj (aj (aJ 7 r3))) (sC p kk h a n w s i)).bind (λr=>(r.2.cut [2,4,6,7,8,9,15,16] 4).map λq=>(r.1,q))=
  E (.exit 8,{sC p kk h a n w s i with ob:=aa Z (!C (i<64))}):=by kernel_rfl
def Xr:(bh Q (rC Z Z Z Z) 60 0 1 ((aH r3).drop 8) (sC p kk h a n w s i)).bind (St.cut [2,4,6,7,8,15,20] 4)=E (sD p kk h a n w s):=by kernel_rfl
def adg:(exec Q (rC Z Z Z Z) 60 0 (aJ 9 r3) (sD p kk h a n w s)).bind (λr=>(r.2.cut [2,4,6,7,8] 2).map λq=>(r.1,q))=E (.normal,sO p kk (S2.Gy (cD 8 h) (cD 8 s)) a):=by kernel_rfl
end
def wA(p:pD)(a:Int):Nat->pD
 |0=>[]
 |j+1=>wA p a j++[wq p (ix a j)]
def wG(w:pD):Nat->pD
 |0=>w
 |j+1=>wG w j++[nxJ (wG w j) (16+j)]
def Q9(s k w:pD):Nat->pD
 |0=>s
 |j+1=>JJ (cD 8 (Q9 s k w j)) (X k j 0) (X w j 0)
def uu(p kk h:pD)(a:Int):pD:=S2.Gy (cD 8 h) (cD 8 (Q9 h kk (wG (wA p a 16) 48) 64))
def hN(p kk h:pD):Nat->pD
 |0=>h
 |j+1=>uu p kk (hN p kk h j) (64*j:Nat)
def DX(p:pD)(a:Int):∀j,A (wA p a j)=j
 |0=>rfl
 |j+1=>by rw[wA,abA,DX p a j];rfl
def JK(w:pD):∀j,A (wG w j)=A w+j
 |0=>rfl
 |j+1=>by rw[wG,abA,JK w j];rfl
def agu{a i:Nat}(b:a<10000000000000)(hi:i<16):ix a i=((a+4*i:Nat):Int):=by unfold ix;rw[aM (4*(i:Int)) (by omega) (by omega),aM _ (by omega) (by omega)];omega
def adh{p:pD}{a i:Nat}(b:a<10000000000000)(c:a+64<=A p)(hi:i<16):oq p (ix a i) i=Z:=by rw[agu b hi];unfold oq;rw[aM _ (by omega) (by omega),aM _ (by omega) (by omega),aM _ (by omega) (by omega),dB (by omega) (by omega),dB (by omega) (by omega),dB (by omega) (by omega),dB (by omega) (by omega)];simp only[av,aac,true_and,aj7];omega
def Xs{j:Nat}(b:j<48):nxP (16+j) (16+j) (16+j)=Z:=by unfold nxP;rw[aM _ (by omega) (by omega),aM _ (by omega) (by omega),aM _ (by omega) (by omega),aM _ (by omega) (by omega),jW (by omega)];simp only[av,aac,true_and,aj7];refine⟨⟨⟨⟨⟨⟨⟨⟨?_,dB (by omega) (by omega)⟩,?_⟩,dB (by omega) (by omega)⟩,?_⟩,dB (by omega) (by omega)⟩,?_⟩,dB (by omega) (by omega)⟩,?_⟩<;>omega
section
variable (p kk h:pD) {a:Nat} (ha:a<10000000000000) (hp:a+64<=p.length) (hk:kk.length=64)
include ha hp in
theorem adi:Tr Q none 0 (aJ 2 r3) (sA p kk h a 0 [] 0) .normal (sA p kk h a 16 (wA p a 16) 16):=by
 have key:=Tr.loop (P:=Q) (ro:=none) (k:=0) 4 (c:=aJ 2 r3) (by kernel_rfl) (λj:Nat=>sA p kk h a j (wA p a j) j) 16 (s':=sA p kk h a 16 (wA p a 16) 16) (λj hj=>?_) ?_
 ·exact key
 ·have k:=akS p kk h (wA p a j) j a j
  rw[adh ha hp hj,DX,jW (by omega),aM _ (by omega) (by omega)] at k
  refine Tr.post (Tr.cut (lI true true true true) 60 _ 3 (by omega) k rfl) (bG.bR ?_ rfl)
  show(sA _ _ h _ _ [] _).t=(sA _ _ h _ _ [] _).t
  rw[show((j:Int)+1)=((j+1:Nat):Int) by omega]
 ·exact Tr.post (Tr.cut (lI true false true true) 60 _ 3 (by omega) (akT p kk h (wA p a 16) 16 a 16) rfl) (bG.bR rfl rfl)
theorem adj{w:pD}(e:A w=16)(a:Int):Tr Q Y 0 (aJ 4 r3) (sB p kk h a 16 w 16) .normal (sB p kk h a 64 (wG w 48) 64):=by
 have b:=Tr.loop (P:=Q) (ro:=Y) (k:=0) 6 (c:=aJ 4 r3) rfl (λj:Nat=>sB p kk h a (16+j) (wG w j) (16+j)) 48 (s':=sB p kk h a 64 (wG w 48) 64) (λj d=>?_) ?_
 ·exact b
 ·have k:=akU p kk h (wG w j) (16+j) a (16+j)
  rw[JK,e,Xs d,aM _ (by omega) (by omega)] at k
  refine Tr.post (Tr.cut (lI Z Z Z Z) 60 _ 3 (by omega) k rfl) (bG.bR ?_ rfl)
  show(sB _ _ h _ _ [] _).t=(sB _ _ h _ _ [] _).t
  rw[show((16:Int)+(j:Int)+1)=16+((j+1:Nat):Int) by omega,show 16+j+1=16+(j+1) by omega]
 ·exact Tr.post (Tr.cut (lI Z Z I Z) 60 _ 3 (by omega) (akV p kk h (wG w 48) 64 a 64) rfl) (bG.bR rfl rfl)
include hk in
theorem Xt(w:pD)(a:Int):Tr Q none 0 (aJ 7 r3) (sC p kk h a 64 w h 0) .normal (sC p kk h a 64 w (Q9 h kk w 64) 64):=by
 have key:=Tr.loop (P:=Q) (ro:=none) (k:=0) 8 (c:=aJ 7 r3) (by kernel_rfl) (λj:Nat=>sC p kk h a 64 w (Q9 h kk w j) j) 64 (s':=sC p kk h a 64 w (Q9 h kk w 64) 64) (λj hj=>?_) ?_
 ·exact key
 ·have k:=ade p kk h w (Q9 h kk w j) 64 a j
  rw[hk,aM _ (by omega) (by omega),show 0+(j:Int).toNat=j by omega,show(j:Int).toNat=j by omega] at k
  refine Tr.post (Tr.cut (lI true true true true) 60 _ 4 (by omega) k ?_) (bG.bR ?_ rfl)
  ·simp only[av,aac,true_and]
   exact⟨⟨⟨⟨by omega,dB (by omega) (by omega)⟩,by omega⟩,dB (by omega) (by omega)⟩,by omega⟩
  ·show(sC _ _ h _ _ [] [] _).t=(sC _ _ h _ _ [] [] _).t
   rw[show((j:Int)+1)=((j+1:Nat):Int) by omega]
 ·exact Tr.post (Tr.cut (lI true true true false) 60 _ 4 (by omega) (adf p kk h w (Q9 h kk w 64) 64 a 64) rfl) (bG.bR rfl rfl)
def at0(a:Int):bG 0 (sN p kk h a) (sA p kk h a 0 [] 0):=
 (bG.nothing (o':=Z) 9 .u32 I Z rfl).trans (bG.bR (by kernel_rfl) rfl)
include ha hp hk in
theorem akW:Tr Q none 0 r3 (sO p kk h a) .normal (sO p kk (uu p kk h a) a):=by
 refine Tr.eX ?_
 refine TrL.dM (lI true true true true) 60 2 _ 2 (by omega) (ada p kk h a) rfl (by decide) ?_
 refine TrL.pre (s1:=sA p kk h a 0 [] 0) ?_ (at0 p kk h a) (by decide)
 refine TrL.dV 2 (by decide) (adi p kk h ha hp) ?_
 refine TrL.dM (lI true true true true) 60 1 _ 3 (by omega) (adb p kk h (wA p a 16) 16 a 16) rfl (by decide) ?_
 refine TrL.dV 4 (by decide) (adj p kk h (DX p a 16) a) ?_
 refine TrL.dM (lI true true true true) 60 2 _ 4 (by omega) (Xq p kk h (wG (wA p a 16) 48) 64 a 64) rfl (by decide) ?_
 refine TrL.dV 7 (by decide) (Xt p kk h hk (wG (wA p a 16) 48) a) ?_
 refine TrL.dM (lI true true true true) 60 1 _ 4 (by omega) (Xr p kk h (wG (wA p a 16) 48) (Q9 h kk (wG (wA p a 16) 48) 64) 64 a 64) rfl (by decide) ?_
 exact TrL.dV 9 (by decide) (Tr.cut (lI true true true true) 60 _ 2 (by omega) (adg p kk h (wG (wA p a 16) 48) (Q9 h kk (wG (wA p a 16) 48) 64) 64 a) rfl) ⟨rfl,rfl⟩
def Xu:aJ 2 rO=.block 3 r3:=by kernel_rfl
include ha hp hk in
theorem adk:Tr Q none 0 rO (sO p kk h a) .normal (sO p kk (uu p kk h a) (a+64:Nat)):=by
 refine Tr.eX ?_
 refine TrL.dM (lI true true true true) 60 2 _ 2 (by omega) (ac8 p kk h a) ?_ (by decide) ?_
 ·simp only[av,aac,true_and];omega
 refine TrL.dV 2 (by decide) (s1:=sO p kk (uu p kk h a) a) ?_ ?_
 ·rw[Xu]
  exact Tr.cz (Tr.pre (akW p kk h ha hp hk) (bG.bR rfl rfl)) (by simp)
 ·have k:=ac9 p kk (uu p kk h a) a
  rw[aM _ (by omega) (by omega)] at k
  refine TrL.dV 3 (by decide) (Tr.post (Tr.cut (lI true true true true) 60 _ 2 (by omega) k rfl) (bG.bR ?_ rfl)) ⟨rfl,rfl⟩
  show(sO _ _ h _).t=(sO _ _ h _).t
  rw[show((a:Int)+64)=((a+64:Nat):Int) by omega]
end
def akX{p kk:pD}(h:pD){N}(hp:A p=64*N)(hk:A kk=64)(e:N<10000000000):Tr Q Y 0 (aJ 8 rB) (sO p kk h 0) .normal (sO p kk (hN p kk h N) (64*N:Nat)):=by
 have b:=Tr.loop (P:=Q) (ro:=Y) (k:=0) 2 (c:=aJ 8 rB) rfl (λj:Nat=>sO p kk (hN p kk h j) (64*j:Nat)) N (s':=sO p kk (hN p kk h N) (64*N:Nat)) (λj f=>?_) ?_
 ·exact b
 ·exact adk p kk (hN p kk h j) (a:=64*j) (by omega) (by omega) hk
 ·exact Tr.post (Tr.cut (lI I Z Z Z) 60 _ 2 (by omega) (akR p kk (hN p kk h N) (64*N:Nat)) (by rw[hp];simp[aa])) (bG.bR rfl rfl)
def Qg(xs:pD):A (jx xs)=64*(A (jx xs)/64):=by
 have h:=(vT (len:=A xs) (show 56<64 by omega)).1;have c:A (jx xs)=A xs+1+e7 (A xs) 64 56+8:=by unfold jx;rw[abA,kV];rfl
 rw[c];omega
def b7(xs:pD):pD:=lQ (S2.E1 (cD 8 (hN (jx xs) S2.nO S2.uZ (A (jx xs)/64))))
def adl:A S2.nO=64:=by kernel_rfl
def adm(xs:pD):(bh Q (rC Z Z Z Z) 60 0 8 (aH rB) ⟨aU f79.ntmps [.ro I .u8 xs],[],Z⟩).bind (St.cut [2,4,6,7,8] 2)=
  E {sO (jx xs) S2.nO S2.uZ 0 with ob:=aa Z (aa Z (C (A xs<274877900000)))}:=by kernel_rfl
theorem JL{xs:pD}(h1:xs.length<274877900000):ak Q 79 [.ro false .u8 xs] [] (.sM (b7 xs)) []:=by
 have hp:=Qg xs
 generalize hn:(jx xs).length/64=N at hp
 have hb:N<10000000000:=by
  have hK:e7 xs.length 64 56<64:=Nat.mod_lt _ (by omega)
  have hl:(jx xs).length=xs.length+1+e7 xs.length 64 56+8:=by unfold jx;rw[abA,kV];rfl
  omega
 rw[b7,bD,hn]
 refine ak.iH (lI true true true true) 400 9 0 func79 (by simp) rfl (λs' x h=>?_) (s:=sO (jx xs) S2.nO (hN (jx xs) S2.nO S2.uZ N) (64*N:Nat)) (p:=true) (by kernel_rfl) rfl rfl rfl
 refine TrL.dM (lI true true true true) 60 8 _ 2 (by simp) (adm xs) (by rw[Me h1];rfl) (by decide) ?_
 exact TrL.dV 8 (by decide) (Tr.pre (akX S2.uZ hp adl hb) (bG.bR rfl rfl)) h
def Gz:List SV->Option (SV×List Blk×Bool)
 | [.ro I .u8 b]=>E (.sM (b7 b),[],C (A b<274877900000))
 |_=>Y
def mq:aK Q:=.val 79 _ func79 (by decide) rfl Z 0 Gz λvs v new e=>by
 unfold Gz at e
 split at e
 ·simp only[Mf,aad,aac] at e
  have⟨rfl,rfl,b⟩:=e
  exact JL b
 ·cases e
end Q2
namespace Cc
open Sy Sh
abbrev V(n:Int):Int:=IntKind.u32.wrap n
def qr(a b c d:Int):Int×Int×Int×Int:=
 let f:=V (a+b);let e:=S2.yo (gJ .u32 d f) 16;let c1:=V (c+e);let g:=S2.yo (gJ .u32 b c1) 12;let j:=V (f+g);let k:=S2.yo (gJ .u32 e j) 8;let c2:=V (c1+k)
 (j,S2.yo (gJ .u32 g c2) 7,c2,k)
section
variable (key aEK s x:pD) (n i:Int)
end
end Cc
namespace R3
open Sy Sh
abbrev V(n:Int):Int:=IntKind.u32.wrap n
def tu(x n:Int):Int:=V (jz .u32 x (O n)+eF .u32 x (O (IntKind.u64.wrap (32-n))))
def qq(a b c d:Int):Int×Int×Int×Int:=
 let f:=V (a+b);let e:=tu (gJ .u32 d f) 16;let c1:=V (c+e);let g:=tu (gJ .u32 b c1) 12;let j:=V (f+g);let k:=tu (gJ .u32 e j) 8;let c2:=V (c1+k)
 (j,tu (gJ .u32 g c2) 7,c2,k)
section
variable (x:pD) (ex wh:Bool)
end
def J(n:Int):Int:=i64.wrap n
section
variable (m:Nat) (l xs:pD) (i:Int)
end
end R3
namespace Fe
open Sy
def inU(m:Int)(x:Int):Bool:=C (0<=x)&&C (x<m)
def u64(x:Int):Bool:=inU 18446744073709551616 x
def u8(x:Int):Bool:=inU 256 x
def wm{x:Int}:u8 x=Z↔0<=x/\x<256:=by simp[u8,inU]
def Cb(n:Int)(b:0<=n)(a:n<2^64):IntKind.u64.wrap n=n:=by
 have e:(2:Int)^64=18446744073709551616:=by decide
 rw[e] at a;rw[show IntKind.u64.wrap n=n%2^64 from by simp[IntKind.wrap,IntKind.signed,IntKind.bits],e];omega
def cL(n:Int):IntKind.u64.wrap n=n%18446744073709551616:=by simp[IntKind.wrap,IntKind.signed,IntKind.bits]
def nD(n:Int):IntKind.u8.wrap n=n%256:=by simp[IntKind.wrap,IntKind.signed,IntKind.bits]
def aM(n:Int)(a: -9223372036854775808<=n)(h1:n<9223372036854775808):i64.wrap n=n:=IntWalk.i64_in n (by omega)
def PG i(x y:Int)(b:0<=x)(d:x%2^i=0)(c:x<18446744073709551616)(a:0<=y)(f:y<2^i)(hi:i<=64):qn .u64 x y=x+y:=by
 have e:(2:Int)^64=18446744073709551616:=by decide
 have g:(2:Int)^i<=2^64:=by exact_mod_cast Nat.pow_le_pow_right (by decide) hi
 exact bits_join .u64 64 (by decide) Cb i x y b d (by rw[e];exact c) a f (by omega)
def mw k(a:Int) n(b:n<=k.bits):eF k a n=a/2^n:=by unfold eF;rw[agK b,Int.fdiv_eq_ediv_of_nonneg];exact_mod_cast aaH (2^n)
def Aj(a:Int) n(b:n<=64):jz .u64 a n=a*2^n%18446744073709551616:=by unfold jz;rw[show min n IntKind.u64.bits=n from agK b,cL]
def agv i(hi:i<=64)(x:Int)(a:0<=x)(h1:x<18446744073709551616):fj .u64 x (2^i-1)=x%2^i:=by exact(bits_mask .u64 64 (by decide) Cb i hi x a h1:bits .and .u64 x (2^i-1)=x%2^i)
def VF(x:Int)(a:0<=x)(h1:x<256):fj .u8 x 1=x%2:=by exact(bits_mask .u8 8 (by decide) wraps_u8 1 (by decide) x a h1:bits .and .u8 x (2^1-1)=x%2^1)
def ku(x:Int)(a:0<=x)(h1:x<18446744073709551616):fj .u64 x 2251799813685247=x%2251799813685248:=agv 51 (by decide) x a h1
def JM(x:Int)(a:0<=x)(h1:x<18446744073709551616):fj .u64 x 4294967295=x%4294967296:=agv 32 (by decide) x a h1
def oB(x:Int):eF .u64 x 51=x/2251799813685248:=by rw[mw _ _ _ (by decide)];simp
def kU(x y c:Int):Int:=lQ (Int.ofNat ((O x+O y+O c)%Extern.MathBitsCarry.m64))
def DC(x y c:Int):Int:=lQ (Int.ofNat ((O x+O y+O c)/Extern.MathBitsCarry.m64))
def JN(c:Int):Bool:=C (O c<=1)
def JO{P}(x y c:Int)(a:JN c=Z) w:
  (add64Entry #[.int .u64 x,.int .u64 y,.int .u64 c]).run P w=.ok (.tuple #[.int .u64 (kU x y c),.int .u64 (DC x y c)]) w:=by
 unfold kU DC;rw[bD,bD];rcases c with(_|_|k)|n
 ·rfl
 ·rfl
 ·simp[JN] at a;omega
 ·rfl
def DB{x y c}(d:0<=x)(a:0<=y)(b:0<=c):kU x y c=(x+y+c)%18446744073709551616/\DC x y c=(x+y+c)/18446744073709551616:=by unfold kU DC;rw[bD,bD];have:Extern.MathBitsCarry.m64=18446744073709551616:=rfl;rw[this];simp[Int.ofNat_eq_natCast];omega
def Xv:List SV->Option (SV×Bool)
 | [.int .u64 x,.int .u64 y,.int .u64 c]=>E (.bP [.int .u64 (kU x y c),.int .u64 (DC x y c)],JN c)
 |_=>Y
def akY:aK Q:=.ext 242 Xv λvs v e d w args a=>by
 unfold Xv at e;split at e
 ·rename_i x y c;simp[Mf,aad] at e;have⟨rfl,b⟩:=e
  obtain⟨_,_,rfl,⟨_,_,rfl,⟨_,_,rfl,rfl,rfl⟩,rfl⟩,rfl⟩:=a
  refine⟨_,?_,⟨_,⟨_,_,rfl,⟨_,_,rfl,rfl,rfl⟩,rfl⟩,rfl⟩⟩
  rw[run_callFunc_extern func242 rfl rfl rfl (by kernel_rfl),JO x y c b]
  rfl
 ·cases e
def ru:aq Q (mk (P:=Q) [] []):=au [] aN.nil _ _
def akZ(x y:Int):Int:=IntKind.u64.wrap (IntKind.u64.wrap (eF .u64 x 32*fj .u64 y 4294967295)+eF .u64 (IntKind.u64.wrap (fj .u64 x 4294967295*fj .u64 y 4294967295)) 32)
def Ag(x y:Int):Int:=lQ (IntKind.u64.wrap (IntKind.u64.wrap (IntKind.u64.wrap (eF .u64 x 32*eF .u64 y 32)+eF .u64 (akZ x y) 32)+
 eF .u64 (IntKind.u64.wrap (fj .u64 (akZ x y) 4294967295+IntKind.u64.wrap (fj .u64 x 4294967295*eF .u64 y 32))) 32))
def mulL(x y:Int):Int:=lQ (IntKind.u64.wrap (x*y))
def Xw:List SV->Option (SV×List Blk×Bool)
 | [.int .u64 x,.int .u64 y]=>E (.bP [.int .u64 (Ag x y),.int .u64 (mulL x y)],[],Z)
 |_=>Y
def ak0:aK Q:=.val 243 _ func243 (by decide) rfl I 0 Xw λvs v new e=>by
 unfold Xw at e;split at e
 ·rename_i x y;cases e;rw[Ag,mulL,bD,bD];exact aP ru 60 func243 (by kernel_rfl) rfl rfl
 ·cases e
def jv{x y m n:Int}(b:0<=x)(d:x<=m)(a:0<=y)(c:y<=n):0<=x*y/\x*y<=m*n:=
 ⟨Int.mul_nonneg b a,Int.mul_le_mul d c a (by omega)⟩
def FY{x y}(e:0<=x)(l:x<18446744073709551616)(f:0<=y)(m:y<18446744073709551616):
  18446744073709551616*Ag x y+mulL x y=x*y/\0<=Ag x y/\Ag x y<=18446744073709551614/\0<=mulL x y/\mulL x y<18446744073709551616:=by
 rw[Ag,mulL,bD,bD];unfold akZ;have s:∀z,eF .u64 z 32=z/4294967296:=λz=>by rw[mw _ _ _ (by decide)];simp
 simp only[s,JM x e l,JM y f m,cL]
 have d:0<=x%4294967296/\x%4294967296<=4294967295:=by omega
 have b:0<=x/4294967296/\x/4294967296<=4294967295:=by omega
 have c:0<=y%4294967296/\y%4294967296<=4294967295:=by omega
 have a:0<=y/4294967296/\y/4294967296<=4294967295:=by omega
 have i:x=4294967296*(x/4294967296)+x%4294967296:=by omega
 have h:y=4294967296*(y/4294967296)+y%4294967296:=by omega
 have g:x*y=18446744073709551616*(x/4294967296*(y/4294967296))+4294967296*(x/4294967296*(y%4294967296))+4294967296*(x%4294967296*(y/4294967296))+x%4294967296*(y%4294967296):=by
  conv=>lhs;rw[i,h]
  generalize x/4294967296=u
  generalize x%4294967296=v
  generalize y/4294967296=p
  generalize y%4294967296=q
  grind
 have k:=jv b.1 b.2 a.1 a.2
 have r:=jv b.1 b.2 c.1 c.2
 have n:=jv d.1 d.2 a.1 a.2
 have o:=jv d.1 d.2 c.1 c.2
 rw[g]
 generalize x/4294967296*(y/4294967296)=A at*
 generalize x/4294967296*(y%4294967296)=B at*
 generalize x%4294967296*(y/4294967296)=C at*
 generalize x%4294967296*(y%4294967296)=D at*
 clear i h g
 have t0:(B%18446744073709551616+D%18446744073709551616/4294967296)%18446744073709551616=B+D/4294967296:=by omega
 rw[t0,JM _ (by omega) (by omega)]
 generalize t:B+D/4294967296=T at*
 have j:(T%4294967296+C%18446744073709551616)%18446744073709551616=T%4294967296+C:=by omega
 rw[j]
 refine⟨?_,?_,?_,?_,?_⟩<;>omega
def VE.cD k n l:VE (.agg [.af k n l]) (.agg [.af k n (cD n l)]):=λe _ ⟨a,b,c⟩=>⟨a,(PE.cD ..).2 e a b,c⟩
abbrev jU(n:Int):Int:=IntKind.u64.wrap n
abbrev gG(n:Int):Int:=fj .u64 n 2251799813685247
abbrev iN(n:Int):Int:=eF .u64 n 51
def cw0(l:pD):Int:=jU (X l 0 0+0)
def cw1(l:pD):Int:=jU (X l 1 0+iN (cw0 l))
def cw2(l:pD):Int:=jU (X l 2 0+iN (cw1 l))
def cw3(l:pD):Int:=jU (X l 3 0+iN (cw2 l))
def cw4(l:pD):Int:=jU (X l 4 0+iN (cw3 l))
def FX(l:pD):pD:=[jU (gG (cw0 l)+jU (19*iN (cw4 l))),gG (cw1 l),gG (cw2 l),gG (cw3 l),gG (cw4 l)]
def lX(l:pD):pD:=lQ (FX (FX (cD 5 l)))
def agw:List SV->Option (SV×List Blk×Bool)
 | [.agg [.af .u64 5 l]]=>E (.agg [.af .u64 5 (lX l)],[],Z)
 |_=>Y
theorem Xx l:ak Q 196 [.agg [.af .u64 5 l]] [] (.agg [.af .u64 5 (lX l)]) []:=by refine ak.conv (bs:=[.agg [.af .u64 5 (cD 5 l)]]) (h2:=[]) (h1:=[]) ?_ ⟨VE.cD _ _ _,trivial⟩ trivial (VE.refl _) trivial;rw[lX,bD];exact aP ru 100 func196 (by kernel_rfl) rfl rfl
def at1:aK Q:=.val 196 _ func196 (by decide) rfl I 0 agw λvs v new e=>by
 unfold agw at e;split at e
 ·cases e;exact Xx _
 ·cases e
def abP(a b:pD):pD:=[jU (X a 0 0+X b 0 0),jU (X a 1 0+X b 1 0),jU (X a 2 0+X b 2 0),jU (X a 3 0+X b 3 0),jU (X a 4 0+X b 4 0)]
def j0(a b:pD):pD:=lX (abP a b)
def F4:List SV->Option (SV×List Blk×Bool)
 | [.agg [.af .u64 5 a],.agg [.af .u64 5 b]]=>E (.agg [.af .u64 5 (j0 a b)],[],Z)
 |_=>Y
def Xy:aq Q (mk [at1] []):=au _ aN.nil _ _
def EV:aK Q:=.val 240 _ func240 (by decide) rfl I 0 F4 λvs v new e=>by
 unfold F4 at e;split at e
 ·rename_i a b;cases e;refine ak.conv (bs:=[.agg [.af .u64 5 (cD 5 a)],.agg [.af .u64 5 (cD 5 b)]]) (h2:=[]) (h1:=[]) ?_ ⟨VE.cD _ _ _,VE.cD _ _ _,trivial⟩ trivial (VE.refl _) trivial;exact aP Xy 100 func240 (by kernel_rfl) rfl rfl
 ·cases e
def Vz(a b:pD):pD:=[jU (X a 0 0+jU (9007199254740916-X b 0 0)),jU (X a 1 0+jU (9007199254740988-X b 1 0)),jU (X a 2 0+jU (9007199254740988-X b 2 0)),jU (X a 3 0+jU (9007199254740988-X b 3 0)),jU (X a 4 0+jU (9007199254740988-X b 4 0))]
def j4(a b:pD):pD:=lX (Vz a b)
def F5:List SV->Option (SV×List Blk×Bool)
 | [.agg [.af .u64 5 a],.agg [.af .u64 5 b]]=>E (.agg [.af .u64 5 (j4 a b)],[],Z)
 |_=>Y
def T6:aK Q:=.val 195 _ func195 (by decide) rfl I 0 F5 λvs v new e=>by
 unfold F5 at e;split at e
 ·rename_i a b;cases e;refine ak.conv (bs:=[.agg [.af .u64 5 (cD 5 a)],.agg [.af .u64 5 (cD 5 b)]]) (h2:=[]) (h1:=[]) ?_ ⟨VE.cD _ _ _,VE.cD _ _ _,trivial⟩ trivial (VE.refl _) trivial;exact aP Xy 100 func195 (by kernel_rfl) rfl rfl
 ·cases e
def pl(s:Int×Int)(x y:Int):Int×Int:=(jU (s.1+jU (Ag x y+DC s.2 (mulL x y) 0)),kU s.2 (mulL x y) 0)
def yB(b:pD)(k i:Nat):Int:=if i<=k then X b (k-i) 0 else jU (X b (k+5-i) 0*19)
def sK(a b:pD)(k:Nat):Int×Int:=[0,1,2,3,4].foldl (λs i=>pl s (X a i 0) (yB b k i)) (0,0)
def nx(s:Int×Int)(c:Int):Int:=qn .u64 (iN (kU s.2 c 0)) (jz .u64 (jU (s.1+DC s.2 c 0)) 13)
def nE(a s1 b c d:Int×Int):pD:=
 [gG (kU (gG (kU a.2 0 0)) (mulL (nx d (nx c (nx b (nx s1 (nx a 0))))) 19) 0),
  jU (gG (kU s1.2 (nx a 0) 0)+qn .u64 (jz .u64 (jU (Ag (nx d (nx c (nx b (nx s1 (nx a 0))))) 19+DC (gG (kU a.2 0 0)) (mulL (nx d (nx c (nx b (nx s1 (nx a 0))))) 19) 0)) 13) (iN (kU (gG (kU a.2 0 0)) (mulL (nx d (nx c (nx b (nx s1 (nx a 0))))) 19) 0))),
  gG (kU b.2 (nx s1 (nx a 0)) 0),gG (kU c.2 (nx b (nx s1 (nx a 0))) 0),gG (kU d.2 (nx c (nx b (nx s1 (nx a 0)))) 0)]
def jZ(a b:pD):pD:=lQ (lX (nE (sK a b 0) (sK a b 1) (sK a b 2) (sK a b 3) (sK a b 4)))
def adn:aN Q [(241,f241)]:=aN.cons func241 (by decide) aN.nil
def at2:=mk [at1,ak0,akY] [(241,f241)]
def Mp:aq Q at2:=au _ adn _ _
def at3(c s1 a e d:Int×Int):Blk:=.b [.int .u64 c.1,.int .u64 c.2,.int .u64 s1.1,.int .u64 s1.2,.int .u64 a.1,.int .u64 a.2,.int .u64 e.1,.int .u64 e.2,.int .u64 d.1,.int .u64 d.2]
def at4(a b:pD)(d s1 c f e:Int×Int):St:=⟨ag 127 [(4,.r5 2),(5,.r5 3)],[.b [.af .u64 5 (cD 5 a)],.b [.af .u64 5 (cD 5 b)],.b [.af .u64 5 [0,0,0,0,0]],at3 d s1 c f e],Z⟩
theorem Xz(a b:pD):(bh Q at2 100 0 4 (aH (aI f193)) ⟨aU f193.ntmps [.agg [.af .u64 5 (cD 5 a)],.agg [.af .u64 5 (cD 5 b)]],[],Z⟩).bind (St.cut [4,5] 4)=
 E (at4 a b (sK (cD 5 a) (cD 5 b) 0) (sK (cD 5 a) (cD 5 b) 1) (sK (cD 5 a) (cD 5 b) 2) (sK (cD 5 a) (cD 5 b) 3) (sK (cD 5 a) (cD 5 b) 4)):=by kernel_rfl
def F6:List SV->Option (SV×List Blk×Bool)
 | [.agg [.af .u64 5 a],.agg [.af .u64 5 b]]=>E (.agg [.af .u64 5 (jZ (cD 5 a) (cD 5 b))],[],Z)
 |_=>Y
theorem ak1 a b:ak Q 193 [.agg [.af .u64 5 (cD 5 a)],.agg [.af .u64 5 (cD 5 b)]] [] (.agg [.af .u64 5 (jZ (cD 5 a) (cD 5 b))]) []:=by
 rw[jZ,bD]
 generalize f:sK (cD 5 a) (cD 5 b) 0=s0
 generalize e:sK (cD 5 a) (cD 5 b) 1=s1
 generalize c:sK (cD 5 a) (cD 5 b) 2=s2
 generalize d:sK (cD 5 a) (cD 5 b) 3=s3
 generalize g:sK (cD 5 a) (cD 5 b) 4=s4
 refine ak.iH Mp 100 4 0 func193 (by simp) rfl (λs' x h=>?_) (s:=at4 a b s0 s1 s2 s3 s4) (p:=Z) (by kernel_rfl) rfl rfl rfl
 refine TrL.dM Mp 100 4 _ 4 (by simp) (Xz a b) rfl (by decide) ?_
 rw[f,e,c,d,g]
 exact h
def wE:aK Q:=.val 193 _ func193 (by decide) rfl I 0 F6 λvs v new e=>by
 unfold F6 at e;split at e
 ·rename_i a b;cases e;exact ak.conv (ak1 a b) ⟨VE.cD _ _ _,VE.cD _ _ _,trivial⟩ trivial (VE.refl _) trivial
 ·cases e
def xY(n x:Int):Int:=qn .u64 (jz .u64 n 8) (jU x)
def agx(a b c d e f g h:Int):Int:=lQ (xY (xY (xY (xY (xY (xY (xY (xY 0 h) g) f) e) d) c) b) a)
def nU(l:pD)(i:Nat):Int:=agx (X l i 0) (X l (i+1) 0) (X l (i+2) 0) (X l (i+3) 0) (X l (i+4) 0) (X l (i+5) 0) (X l (i+6) 0) (X l (i+7) 0)
def XA:List SV->Option (SV×List Blk×Bool)
 | [.ro _ .u8 l]=>E (.int .u64 (nU l 0),[],C (8<=A l))
 |_=>Y
def ix:Nat->Int
 |0=>7
 |k+1=>i64.wrap (ix k-1)
def obW(n:Nat):Bool:=[0,1,2,3,4,5,6,7].foldl (λo k=>aa (aa o (bC (ix k) n)) (C (O (ix k)<n))) Z
def ado{n}(h:8<=n):obW n=Z:=by
 have e:∀k,k<=7->ix k=7-k:=by decide
 have q:∀k,k<=7->bC (ix k) n=Z/\C (O (ix k)<n)=Z:=λk a=>by
  rw[e k a];unfold bC;simp[No,aac];omega
 simp[obW,aa,q]
def at5:aK Q:=.val 257 _ func257 (by decide) rfl Z 0 XA λvs v new e=>by
 unfold XA at e;split at e
 ·rename_i f l;simp only[Mf,aad,aac] at e;have⟨rfl,rfl,a⟩:=e;rw[nU,agx,bD];exact aP ru 100 func257 (by kernel_rfl) (ado a) rfl
 ·cases e
def at6(l:pD):pD:=
 [gG (nU l 0),gG (qn .u64 (eF .u64 (nU l 0) 51) (jz .u64 (nU l 8) 13)),gG (qn .u64 (eF .u64 (nU l 8) 38) (jz .u64 (nU l 16) 26)),
  gG (qn .u64 (eF .u64 (nU l 16) 25) (jz .u64 (nU l 24) 39)),gG (eF .u64 (nU l 24) 12)]
def JP(l:pD):pD:=lQ (at6 (cD 32 l))
def XB:List SV->Option (SV×List Blk×Bool)
 | [.agg [.af .u8 32 l]]=>E (.agg [.af .u64 5 (JP l)],[],Z)
 |_=>Y
def adp:aq Q (mk [at5] []):=au _ aN.nil _ _
def at7:aK Q:=.val 227 _ func227 (by decide) rfl I 0 XB λvs v new e=>by
 unfold XB at e;split at e
 ·rename_i l;cases e;refine ak.conv (bs:=[.sM (cD ..)]) (h2:=[]) (h1:=[]) ?_ ⟨VE.cD _ _ _,trivial⟩ trivial (VE.refl _) trivial;rw[JP,bD];exact aP adp 100 func227 (by kernel_rfl) rfl rfl
 ·cases e
def z5:pD:=[0,0,0,0,0]
def w7(n:Int):pD:=[gG (jU n),iN (jU n),0,0,0]
def ep(n:Int):pD:=bif C (n<0) then j4 (j4 z5 (w7 (i64.wrap (0-i64.wrap (n+1))))) [1,0,0,0,0] else w7 n
def vL:List SV->Option (SV×List Blk×Bool)
 | [.int .i64 n]=>E (.agg [.af .u64 5 (ep n)],[],Z)
 |_=>Y
def GA b:aq Q (mk [T6] [] λi=>if i=6 then E b else Y):=au _ aN.nil _ _
def jK:aK Q:=.val 150 _ func150 (by decide) rfl I 0 vL λvs v new e=>by
 unfold vL at e;split at e
 ·rename_i n;cases e;unfold ep;cases a:C (n<0) with
  |true=>exact aP (GA Z) 100 func150 (p:=aa Z (C (n<0))) (by kernel_rfl) (by rw[a];rfl) rfl
  |false=>exact aP (GA I) 100 func150 (p:=aa Z (!C (n<0))) (by kernel_rfl) (by rw[a];rfl) rfl
 ·cases e
def t0(a:pD):Int:=jU (X a 0 0+19)
def t1(a:pD):Int:=jU (X a 1 0+iN (t0 a))
def t2(a:pD):Int:=jU (X a 2 0+iN (t1 a))
def t3(a:pD):Int:=jU (X a 3 0+iN (t2 a))
def t4(a:pD):Int:=jU (X a 4 0+iN (t3 a))
def BY(a:pD):pD:=[gG (t0 a),gG (t1 a),gG (t2 a),gG (t3 a),gG (t4 a)]
def Al(w:pD):pD:=
 (t8 32).map λi=>IntKind.u8.wrap (eF .u64 ([qn .u64 (X w 0 0) (jz .u64 (X w 1 0) 51),qn .u64 (eF .u64 (X w 1 0) 13) (jz .u64 (X w 2 0) 38),qn .u64 (eF .u64 (X w 2 0) 26) (jz .u64 (X w 3 0) 25),
  qn .u64 (eF .u64 (X w 3 0) 39) (jz .u64 (X w 4 0) 12)].getD (i/8) 0) (8*(i%8)))
def pN(a:pD):pD:=lQ (Al (bif C (iN (t4 (cD 5 (lX a)))>0) then BY (cD 5 (lX a)) else cD 5 (lX a)))
def XC:List SV->Option (SV×List Blk×Bool)
 | [.agg [.af .u64 5 l]]=>E (.agg [.af .u64 5 (cD 5 (lX l))],[],Z)
 |_=>Y
def aua:aK Q:=.val 196 _ func196 (by decide) rfl I 0 XC λvs v new e=>by
 unfold XC at e;split at e
 ·rename_i l;cases e;exact ak.conv (Xx l) ⟨VE.refl _,trivial⟩ trivial (VE.cD _ _ _) trivial
 ·cases e
def vN:List SV->Option (SV×List Blk×Bool)
 | [.agg [.af .u64 5 a]]=>E (.sM (pN a),[],Z)
 |_=>Y
def GB b:aq Q (mk [aua] [] λi=>if i=40 then E b else Y):=au _ aN.nil _ _
def Jp:aK Q:=.val 151 _ func151 (by decide) rfl false 0 vN λvs v new e=>by
 unfold vN at e
 split at e
 ·rename_i a
  cases e
  unfold pN
  rw[bD]
  cases hn:decide (iN (t4 (cD 5 (lX a)))>0) with
  |true=>exact aP (GB true) 200 func151 (p:=aa true (decide (iN (t4 (cD 5 (lX a)))>0))) (by kernel_rfl) (by rw[hn];rfl) rfl
  |false=>exact aP (GB false) 200 func151 (p:=aa true (!decide (iN (t4 (cD 5 (lX a)))>0))) (by kernel_rfl) (by rw[hn];rfl) rfl
 ·cases e
def XD:List SV->Option (SV×List Blk×Bool)
 | [.agg [.af .u8 32 e]]=>E (.fn (.func 239) [] [.r5 0],[.b [.t5 e]],Z)
 |_=>Y
def afR:aK Q:=.val 190 _ func190 (by decide) rfl I 1 XD λvs v new e=>by
 unfold XD at e;split at e
 ·cases e;exact qA ru 30 func190 1 (by simp) rfl rfl rfl rfl
 ·cases e
def ya(e:pD)(i:Int):Int:=i64.wrap (fj .u8 (eF .u8 (X e (0+O (i64.wrap (i.tdiv 8))) 0) (O (i.tmod 8))) 1)
def Ua(i:Int):Bool:=aa (aa (aa (aa Z (C (i>=0))) (bC (i64.wrap (i.tdiv 8)) 32)) (C (0+O (i64.wrap (i.tdiv 8))<32))) (C (0<=i.tmod 8))
def E2{i}(a:0<=i)(h1:i<256):Ua i=Z:=by
 have e:i.tdiv 8=i/8:=af6 a;have e2:i.tmod 8=i%8:=afS a;have w:i64.wrap (i.tdiv 8)=i/8:=by rw[e];exact aM _ (by omega) (by omega)
 unfold Ua bC;rw[w,e2];simp[av,No,aac,true_and];omega
def qH:Code:=aj (aj (aJ 1 (aI f239)))
def xS(a e:pD):Nat->pD
 |0=>ep 1
 |j+1=>bif (ya e (255-j) != 0) then jZ (cD 5 (jZ (cD 5 (xS a e j)) (cD 5 (xS a e j)))) (cD 5 a) else jZ (cD 5 (xS a e j)) (cD 5 (xS a e j))
def pwC:Code:=aJ 3 (aI f244)
def pwT:List (Option SV):=ag 19 [(2,.r5 1),(4,.r5 2),(5,.r5 3),(8,.fn (.func 239) [] [.r5 0])]
def pwB(e a o:pD):List Blk:=[.b [.t5 e],.b [.af .u64 5 a],.b [.af .u64 5 z5],.b [.af .u64 5 o]]
def Ra(e a o:pD)(l:Nat):List Blk:=[.b [.t5 e],.b [.af .u64 5 a],.b [.af .u64 5 z5],.b [.af .u64 5 o],.g (E (IA pwC pwT l))]
def Rb(e a o:pD)(l:Nat)(i:Int):St:=⟨ag 20 [(0,.fn (.yield l) [] []),(1,.r5 0),(3,.t6 i)],Ra e a o l,Z⟩
def XE x y:aq Q (mk [wE,jK] [] λi=>if i=5 then E x else if i=14 then E y else Y):=au _ aN.nil _ _
def JQ:aq Q (mk [wE,jK] []):=au _ aN.nil _ _
section
variable (e a o:pD) (l:Nat) (i:Int)
def ak2:(exec Q (mk [wE,jK] [] λi=>if i=5 then E Z else if i=14 then E Z else Y) 60 5 qH (Rb e a o l i)).bind (λr=>(r.2.cut [0,1,3] 5).map λq=>(r.1,q))=
  E (.normal,⟨(Rb e a o l (i64.wrap (i-1))).t,Ra e a (jZ (cD 5 (jZ (cD 5 o) (cD 5 o))) (cD 5 a)) l,aa (Ua i) (aa (aa (aa (C (l=l)) (C (l=l))) (ya e i != 0)) (C (l=l)))⟩):=by kernel_rfl
def adq:(exec Q (mk [wE,jK] [] λi=>if i=5 then E Z else if i=14 then E I else Y) 60 5 qH (Rb e a o l i)).bind (λr=>(r.2.cut [0,1,3] 5).map λq=>(r.1,q))=
  E (.normal,⟨(Rb e a o l (i64.wrap (i-1))).t,Ra e a (jZ (cD 5 o) (cD 5 o)) l,aa (Ua i) (aa (aa (aa (C (l=l)) (C (l=l))) (!(ya e i != 0))) (C (l=l)))⟩):=by kernel_rfl
def ak3:(exec Q (mk [wE,jK] [] λi=>if i=5 then E I else if i=14 then E I else Y) 60 5 qH (Rb e a o l i)).bind (λr=>(r.2.cut [0,1,3] 5).map λq=>(r.1,q))=
  E (.exit 0,⟨(Rb e a o l i).t,Ra e a o l,aa Z (!C (i>=0))⟩):=by kernel_rfl
def XF:(bh Q (mk [wE,jK] []) 60 5 1 (aH (aI f239)) ⟨aU f239.ntmps [.fn (.yield l) [] [],.r5 0],Ra e a o l,Z⟩).bind (St.cut [0,1,3] 5)=E (Rb e a o l 255):=by kernel_rfl
def adr:(bh Q (mk [wE,jK] []) 60 1 3 (aH (aI f244)) ⟨aU f244.ntmps [.agg [.af .u64 5 a],.fn (.func 239) [] [.r5 0]],[.b [.t5 e]],Z⟩).bind (St.cut [2,4,5,8] 4)=E ⟨pwT,pwB e a (ep 1),Z⟩:=by kernel_rfl
end
def ads e a l:ak Q 239 [.fn (.yield l) [] [],.r5 0] (Ra e a (ep 1) l) (.bP []) (Ra e a (xS a e 256) l):=by
 have h:Tr Q Y 5 (aJ 1 (aI f239)) (Rb e a (ep 1) l 255) .normal (Rb e a (xS a e 256) l (-1)):=by
  have d:=Tr.loop (P:=Q) (ro:=Y) (k:=5) 0 (c:=aJ 1 (aI f239)) rfl (λj:Nat=>Rb e a (xS a e j) l (255-j)) 256 (s':=Rb e a (xS a e 256) l (-1)) (λj n=>?_) ?_
  ·exact d
  ·have e1:(255:Int)-j-1=255-(j+1:Int):=by omega
   have g:i64.wrap (255-(j:Int)-1)=255-(j+1:Int):=by rw[aM _ (by omega) (by omega),e1]
   have f:=E2 (i:=255-(j:Int)) (by omega) (by omega);cases b:(ya e (255-(j:Int)) != 0) with
   |true=>
    have k:=ak2 e a (xS a e j) l (255-j)
    rw[g] at k
    refine Tr.post (Tr.cut (XE Z Z) 60 _ 5 (by omega) k (by simp[aa,f,b])) (bG.bR rfl ?_)
    show Ra _ _ _ _=Ra _ _ _ _
    rw[xS,b];rfl
   |false=>
    have k:=adq e a (xS a e j) l (255-j)
    rw[g] at k
    refine Tr.post (Tr.cut (XE Z I) 60 _ 5 (by omega) k (by simp[aa,f,b])) (bG.bR rfl ?_)
    show Ra _ _ _ _=Ra _ _ _ _
    rw[xS,b];rfl
  ·have k:=ak3 e a (xS a e 256) l (-1)
   exact Tr.post (Tr.cut (XE I I) 60 _ 5 (by omega) k rfl) (bG.bR rfl rfl)
 refine ak.mk (vs:=[]) func239 rfl (x:=.normal) (s:=Rb e a (xS a e 256) l (-1)) ?_ (.inr rfl) rfl
 refine TrL.dM JQ 60 1 _ 5 (by simp[Ra]) (XF e a (ep 1) l) rfl (by decide) ?_
 exact TrL.dV 1 (by decide) h ⟨rfl,rfl⟩
def Ae(a e:pD):pD:=lQ (xS a e 256)
def aub e a:ak Q 244 [.agg [.af .u64 5 a],.fn (.func 239) [] [.r5 0]] [.b [.t5 e]] (.agg [.af .u64 5 (Ae a e)]) [.b [.t5 e]]:=by
 rw[Ae,bD];refine ak.iH JQ 60 4 1 func244 (by simp) rfl (λs' x h=>?_) (s:=⟨pwT,pwB e a (xS a e 256)++[.gap],Z⟩) rfl rfl rfl rfl;refine TrL.dM JQ 60 3 _ 4 (by simp) (adr e a) rfl (by decide) ?_;refine TrL.dV 3 (by decide) ?_ h;exact Tr.zi 0 rfl (first:=[]) (nM:=[.r5 0]) Z func239 (by decide) rfl rfl (λl=>ads e a l)
  (λl=>⟨_,rfl,rfl,by simp[IA],rfl⟩) (λl=>rfl)
def auc(vs:List SV):List Nat:=match vs with
 | [_,.fn _ _ [.aG b _ _]]=>[b]
 |_=>[]
def F8:List SV->List Blk->Option (SV×Bool)
 | [.agg [.af .u64 5 a],.fn (.func 239) [] [.aG 0 0 0]],[.b [.af .u8 32 e]]=>E (.agg [.af .u64 5 (Ae a e)],Z)
 |_,_=>Y
def ajQ:aK Q:=.rdm 244 _ func244 (by decide) rfl auc F8 λvs b v e=>by
 unfold F8 at e;split at e
 ·cases e;exact aub _ _
 ·cases e
def e2:pD:=235::(t9 30 255++[127])
def e1:pD:=251::(t9 30 255++[31])
def e5:pD:=253::(t9 30 255++[15])
def Mq:List (FuncId×Func):=[(150,f150),(195,f195),(196,f196),(151,f151)]
def JR:aN Q Mq:=
 aN.cons func150 (by decide) (aN.cons func195 (by decide) (aN.cons func196 (by decide) (aN.cons func151 (by decide) aN.nil)))
def DY:aq Q (mk (P:=Q) [] Mq):=au _ JR _ _
def XG:List SV->Option (SV×List Blk×Bool)
 | [.int .i64 n,.int .i64 m]=>bif n==2&&m==0 then E (.sM e2,[],Z) else bif n==1&&m==2 then E (.sM e1,[],Z) else bif n==5&&m==3 then E (.sM e5,[],Z) else Y
 |_=>Y
theorem aud:ak Q 245 [.t6 2,.t6 0] [] (.sM e2) []:=aP DY 300 func245 (p:=true) (by kernel_rfl) rfl rfl
theorem aue:ak Q 245 [.t6 1,.t6 2] [] (.sM e1) []:=aP DY 300 func245 (p:=true) (by kernel_rfl) rfl rfl
theorem auf:ak Q 245 [.t6 5,.t6 3] [] (.sM e5) []:=aP DY 300 func245 (p:=true) (by kernel_rfl) rfl rfl
def asz:aK Q:=.val 245 _ func245 (by decide) rfl I 0 XG λvs v new e=>by
 unfold XG at e;split at e
 ·rename_i n m;by_cases d:(n==2&&m==0)=Z
  ·rw[d] at e;simp[No,afP] at d;obtain⟨rfl,rfl⟩:=d;cases e;exact aud
  ·rw[aj2] at d;rw[d] at e;by_cases b:(n==1&&m==2)=Z
   ·rw[b] at e;simp[No,afP] at b;obtain⟨rfl,rfl⟩:=b;cases e;exact aue
   ·rw[aj2] at b;rw[b] at e;by_cases c:(n==5&&m==3)=Z
    ·rw[c] at e;simp[No,afP] at c;obtain⟨rfl,rfl⟩:=c;cases e;exact auf
    ·rw[aj2] at c;rw[c] at e;cases e
 ·cases e
end Fe
namespace R3
open Sy Sh
def adt n:V n=n%4294967296:=S2.AM n
def XH i x y(b:0<=x)(f:x%2^i=0)(c:x<4294967296)(d:0<=y)(g:y<2^i)(hi:i<=32):qn .u32 x y=x+y:=by
 have e:(2:Int)^32=4294967296:=by decide
 have h:(2:Int)^i<=2^32:=by exact_mod_cast Nat.pow_le_pow_right (by decide) hi
 exact bits_join .u32 32 (by decide) wraps_u32 i x y b f (by rw[e];exact c) d g (by omega)
def GC a n(b:n<=32):jz .u32 a n=a*2^n%4294967296:=by unfold jz;rw[show min n IntKind.u32.bits=n from agK b,S2.AM]
def aug a n(b:n<=32):eF .u32 a n=a/2^n:=Fe.mw _ _ _ b
def uv(x:Int):Prop:=0<=x/\x<4294967296
def Qh n:uv (V n):=by rw[adt];exact⟨Int.emod_nonneg _ (by decide),Int.emod_lt_of_pos _ (by decide)⟩
def XI{x}(g:uv x) n m(h:n+m=32):qn .u32 (jz .u32 x m) (eF .u32 x n)=V (jz .u32 x m+eF .u32 x n):=by
 rw[aug _ _ (by omega),GC _ _ (by omega)];have d:(2:Int)^n*2^m=4294967296:=by rw[<-Int.pow_add,h];decide
 have c:(0:Int)<2^n:=Int.pow_pos (by decide);have f:(0:Int)<2^m:=Int.pow_pos (by decide);have e1:x*2^m%4294967296=(x%2^n)*2^m:=by rw[<-d,Int.mul_comm x,Int.mul_comm (2^n) (2^m),Int.mul_emod_mul_of_pos _ _ f,Int.mul_comm]
 have s:=Int.emod_lt_of_pos x c;have q:=Int.emod_nonneg x (Int.ne_of_gt c);have j:=Int.ediv_lt_of_lt_mul c (by rw[Int.mul_comm,d];exact g.2);have k:=Int.ediv_nonneg g.1 (Int.le_of_lt c);have r:(x%2^n+1)*2^m<=2^n*2^m:=Int.mul_le_mul_of_nonneg_right (by omega) (Int.le_of_lt f);rw[d,Int.add_mul] at r;have p:0<=(x%2^n)*2^m:=Int.mul_nonneg q (Int.le_of_lt f);rw[e1,XH m _ _ p (Int.mul_emod_left _ _) (by omega) k j (by omega),adt,ahG (b:=4294967296) (by omega) (by omega)]
end R3
namespace Q2
open Sy Sh
open R3 (uv Qh adt XH GC XI)
def GD(l:pD):Prop:=∀x∈l,uv x
def GD.getD{l}(h:GD l) i:uv (X l i 0):=by
 rw[abQ];cases e:l[i]? with
 |none=>exact⟨by decide,by decide⟩
 |some x=>exact h x (ae9 e)
def aGR{x}(h:uv x):V x=x:=by have:V x=x%4294967296:=adt x;rw[this];exact ahG h.1 h.2
def ak4{x}(h:0<=x/\x<18446744073709551616):Sh.W x=x:=by unfold Sh.W;rw[cL];exact ahG h.1 h.2
def vU{x}(c:uv x) a b n m(h:n+m=32)(e1:O (fj .u64 (Sh.W a) 31)=m)(e2:O (Sh.W (32-fj .u64 (Sh.W a) 31))=n)
  (e3:O b=n)(d:O (Sh.W (32-b))=m):S2.yo x a=AL x b:=by unfold S2.yo AL;rw[e1,e2,e3,d];refine(XI c n m h).trans ?_;rw[Int.add_comm]
def sw{x}(b:uv x) a n m(h:n+m=32)(e1:O (fj .u64 (Sh.W (i64.wrap (0-a))) 31)=m)(e2:O (Sh.W (32-fj .u64 (Sh.W (i64.wrap (0-a))) 31))=n)
  (e3:O a=n)(c:O (Sh.W (32-a))=m):S2.adu x a=AL x a:=vU b _ a n m h e1 e2 e3 c
def ak5{x}(b:uv x):S2.tnP x 6 11 25=tnQ x 6 11 25:=by unfold S2.tnP tnQ;rw[sw b 6 6 26 rfl (by decide) (by decide) rfl (by decide),sw b 11 11 21 rfl (by decide) (by decide) rfl (by decide),sw b 25 25 7 rfl (by decide) (by decide) rfl (by decide)]
def ak7{x}(b:uv x):S2.tnP x 2 13 22=tnQ x 2 13 22:=by unfold S2.tnP tnQ;rw[sw b 2 2 30 rfl (by decide) (by decide) rfl (by decide),sw b 13 13 19 rfl (by decide) (by decide) rfl (by decide),sw b 22 22 10 rfl (by decide) (by decide) rfl (by decide)]
def auh{x y}(d:uv x)(c:uv y) a b:S2.nxW y x a b=nxQ y x a b:=by unfold S2.nxW nxQ;rw[vU c (-17) 17 17 15 rfl (by decide) (by decide) rfl (by decide),vU c (-19) 19 19 13 rfl (by decide) (by decide) rfl (by decide),vU d (-7) 7 7 25 rfl (by decide) (by decide) rfl (by decide),vU d (-18) 18 18 14 rfl (by decide) (by decide) rfl (by decide)]
def ak8{e}(h:uv e):gJ .u32 IntKind.u32.max e=V (4294967295-e):=by
 obtain⟨n,rfl⟩:=ac7 h.1;have b:n<2^32:=by have:=h.2;omega
 unfold gJ vb;rw[show IntKind.u32.max=(2^32-1:Int) by decide];have e1:BitVec.ofInt 32 (2^32-1:Int)=BitVec.allOnes 32:=by decide
 show IntKind.u32.wrap ((BitVec.ofInt 32 (2^32-1:Int)^^^BitVec.ofInt 32 (n:Int)).toNat:Int)=_;rw[e1,BitVec.allOnes_xor,BitVec.toNat_not,BitVec.ofInt_natCast,BitVec.toNat_ofNat,ah7 b];unfold V;congr 1;omega
def auj{e}(h:uv e) f g:S2.chW e f g=chQ e f g:=by unfold S2.chW chQ;rw[ak8 h]
def ak9{s}(b:GD s) k w:S2.Qi s k w=JJ s k w:=by unfold S2.Qi JJ S2.t1W S2.t2W t1Q t2Q;rw[ak5 (b.getD 4),ak7 (b.getD 0),auj (b.getD 4)]
def ala{s}(c:GD s) k w:GD (JJ s k w):=by intro x b;simp[JJ,af7,ajy,or_false] at b;rcases b with rfl|rfl|rfl|rfl|rfl|rfl|rfl|rfl<;>first|exact Qh _|exact c.getD _
def Mr{h}(b:GD (cD 8 h)) k w:∀j,cD 8 (Q9 h k w j)=S2.gb (cD 8 h) k w j/\GD (S2.gb (cD 8 h) k w j)
 |0=>⟨rfl,b⟩
 |j+1=>by have⟨d,c⟩:=Mr b k w j;have e:cD 8 (Q9 h k w (j+1))=JJ (cD 8 (Q9 h k w j)) (X k j 0) (X w j 0):=rfl;rw[e,d,S2.gb,ak9 c];exact⟨rfl,ala c _ _⟩
def alb{w}{j:Nat}(b:j<48):nxJ w (16+j)=nxQ (X w (14+j) 0) (X w (1+j) 0) (X w (9+j) 0) (X w j 0):=by unfold nxJ;rw[aM _ (by omega) (by omega),aM _ (by omega) (by omega),aM _ (by omega) (by omega),aM _ (by omega) (by omega)];rw[show 0+O ((16:Int)+j-2)=14+j by omega,show 0+O ((16:Int)+j-15)=1+j by omega,show 0+O ((16:Int)+j-7)=9+j by omega,show 0+O ((16:Int)+j-16)=j by omega]
def sx{a b:pD}{i}(h:i<A a):X (a++b) i 0=X a i 0:=by rw[abQ,abQ,afy h]
def GF{w}(d:A w=16)(hi:GD w):∀j,j<=48->S2.kW (w++t9 48 0) j=wG w j++t9 (48-j) 0/\GD (wG w j)
 |0,_=>⟨rfl,hi⟩
 |j+1,h=>by
  have⟨g,c⟩:=GF d hi j (by omega);have f:A (wG w j)=16+j:=by rw[JK,d]
  refine⟨?_,?_⟩
  ·rw[S2.kW,g,sx (by omega),sx (by omega),sx (by omega),sx (by omega),auh (c.getD _) (c.getD _),wG,alb (by omega)];rw[List.set_append_right _ _ (by omega),f,show 16+j-(16+j)=0 by omega,show 48-j=(48-(j+1))+1 by omega,List.replicate_succ,List.set_cons_zero,aeH];rfl
  ·intro x b;rw[wG,agl,List.mem_singleton] at b;rcases b with b|rfl
   ·exact c x b
   ·exact Qh _
def By(l:pD):Prop:=∀x∈l,0<=x/\x<256
def By.getD{l}(h:By l) i:0<=X l i 0/\X l i 0<256:=by
 rw[abQ];cases e:l[i]? with
 |none=>exact⟨by decide,by decide⟩
 |some x=>exact h x (ae9 e)
def pX(p:pD) a{i}(hi:i<64):X ((p.drop a).take 64) i 0=X p (a+i) 0:=by rw[abQ,abQ,afY hi,afO]
theorem auk{p}(b:By p){a i:Nat}(d:a<10000000000000)(hi:i<16):wq p (ix a i)=S2.wd ((p.drop a).take 64) i:=by
 rw[agu d hi];unfold wq S2.wd;rw[aM _ (by omega) (by omega),aM _ (by omega) (by omega),aM _ (by omega) (by omega),pX p a (by omega),pX p a (by omega),pX p a (by omega),pX p a (by omega)];rw[show((a+4*i:Nat):Int).toNat=a+4*i by omega,show(((a+4*i:Nat):Int)+1).toNat=a+(4*i+1) by omega,show(((a+4*i:Nat):Int)+2).toNat=a+(4*i+2) by omega,show(((a+4*i:Nat):Int)+3).toNat=a+(4*i+3) by omega];have j:=b.getD (a+4*i);have g:=b.getD (a+(4*i+1));have h:=b.getD (a+(4*i+2));have k:=b.getD (a+(4*i+3))
 generalize p.getD (a+4*i) 0=p0 at*
 generalize p.getD (a+(4*i+1)) 0=p1 at*
 generalize p.getD (a+(4*i+2)) 0=p2 at*
 generalize p.getD (a+(4*i+3)) 0=p3 at*
 rw[GC _ _ (by decide),GC _ _ (by decide),GC _ _ (by decide)]
 simp only[S2.V,V,S2.AM]
 have f:p0%4294967296*2^24%4294967296=16777216*p0:=by omega
 have e1:p1%4294967296*2^16%4294967296=65536*p1:=by omega
 have e2:p2%4294967296*2^8%4294967296=256*p2:=by omega
 have c:p3%4294967296=p3:=by omega
 rw[f,e1,e2,c,XH 24 (16777216*p0) (65536*p1) (by omega) (by omega) (by omega) (by omega) (by omega) (by decide),XH 16 (16777216*p0+65536*p1) (256*p2) (by omega) (by omega) (by omega) (by omega) (by omega) (by decide),XH 8 (16777216*p0+65536*p1+256*p2) p3 (by omega) (by omega) (by omega) (by omega) (by omega) (by decide)]
 omega
def aul p q:uv (wq p q):=Qh _
def agy{p}(b:By p){a:Nat}(c:a<10000000000000):∀n,n<=16->wA p a n=(t8 n).map (S2.wd ((p.drop a).take 64))
 |0,_=>rfl
 |n+1,d=>by rw[wA,agy b c n (by omega),List.range_succ,List.map_append,auk b c (by omega)];rfl
def agz p a:∀n,GD (wA p a n)
 |0=>λx b=>absurd b (by simp[wA])
 |n+1=>by
  intro x b;rw[wA,agl,List.mem_singleton] at b;rcases b with b|rfl
  ·exact agz p a n x b
  ·exact aul _ _
def alc{h}(c:GD h) n:GD (cD n h):=by intro x b;simp[cD,ajj] at b;obtain⟨i,_,rfl⟩:=b;exact c.getD i
def XJ{p}(b:By p) kk{h}(c:A h=8)(f:GD h){a}(g:a<10000000000000):S2.kC h ((p.drop a).take 64) kk=uu p kk h a:=by have e:=agy b g 16 (by omega);have e2:=(GF (DX ..) (agz p a 16) 48 (by omega)).1;rw[e] at e2;have d:=(Mr (alc f 8) kk (wG (wA p a 16) 48) 64).1;unfold S2.kC uu;rw[bD,d,bV c];unfold S2.Qj;rw[e2,e,show 48-48=0 from rfl,List.replicate_zero,acj]
def ald s t:GD (S2.Gy s t):=by intro x b;simp[S2.Gy,ajj] at b;obtain⟨i,_,rfl⟩:=b;exact Qh _
def adv s t:A (S2.Gy s t)=8:=by simp[S2.Gy]
def XK{p}(b:By p) kk{h}(c:A h=8)(d:GD h):∀j,j<10000000000->S2.ld p kk h j=hN p kk h j/\GD (hN p kk h j)/\A (hN p kk h j)=8
 |0,_=>⟨rfl,d,c⟩
 |j+1,m=>by have⟨k,f,g⟩:=XK b kk c d j (by omega);rw[S2.ld,hN,k,XJ b kk g f (by omega)];exact⟨rfl,ald _ _,adv _ _⟩
def agA{n:Nat}(b:n<9223372036854775808):∀i,dQ n i=((n/32/256^i:Nat):Int)
 |0=>by
  rw[dQ,af6 (by omega),aM _ (by omega) (by omega),Nat.pow_zero,Nat.div_one];omega
 |i+1=>by
  have c:n/32/256^i<=n/32:=Nat.div_le_self _ _;have e:n/32/256^(i+1)=n/32/256^i/256:=by rw[Nat.pow_succ, <-Nat.div_div_eq_div_mul]
  rw[dQ,agA b i,e];generalize n/32/256^i=q at*;rw[af6 (by omega),aM _ (by omega) (by omega)];omega
def nD n:IntKind.u8.wrap n=n%256:=by simp[IntKind.wrap,IntKind.signed,IntKind.bits]
def XL{n:Nat}(c:n<1000000000000000000) i:rI n i=((8*n/256^i%256:Nat):Int):=by cases i with
 |zero=>
  rw[rI,afS (by omega),aM _ (by omega) (by omega),nD,Nat.pow_zero,Nat.div_one]
  omega
 |succ i=>
  have:8*n/256^(i+1)=n/32/256^i:=by
   rw[Nat.pow_succ,Nat.mul_comm (256^i), <-Nat.div_div_eq_div_mul]
   congr 1
   omega
  rw[rI,agA (by omega),this]
  generalize n/32/256^i=q
  rw[afS (by omega),nD]
  omega
def aum{n:Nat}(b:n<1000000000000000000) i(hi:i<8):DZ n i=((8*n/256^i%256:Nat):Int):=by unfold DZ;rw[ak4 ⟨by omega,by omega⟩,Fe.Aj _ _ (by decide),Fe.mw _ _ _ (show 8*i<=64 by omega),nD];rw[ahG (a:=(n:Int)*2^3) (by omega) (by omega),show(n:Int)*2^3=((8*n:Nat):Int) by omega,Int.pow_mul,show((2:Int)^8)=((256:Nat):Int) by decide];rw[<-Int.natCast_pow, <-Int.natCast_ediv];generalize 8*n/256^i=q;omega
def adw{n:Nat}(c:n<1000000000000000000):Qk n=Ql n 8:=by
 have b:∀i,i<8->rI n i=DZ n i:=λi d=>by rw[XL c,aum c i d]
 show _=[rI n 7,rI n 6,rI n 5,rI n 4,rI n 3,rI n 2,rI n 1,rI n 0];rw[b 7 (by decide),b 6 (by decide),b 5 (by decide),b 4 (by decide),b 3 (by decide),b 2 (by decide),b 1 (by decide),b 0 (by decide)];rfl
def adx{xs}(h:By xs) pc q:By (gZ xs pc q):=by
 intro x b;simp only[gZ,agl,List.mem_singleton,List.mem_replicate] at b;rcases b with(b|rfl)|⟨_,rfl⟩
 ·exact h x b
 ·decide
 ·decide
def ale{xs}(h:A xs<1000000000000000000):S2.vV xs=jx xs:=by unfold S2.vV S2.rJ jx;rw[adw h]
def alf{xs}(c:A xs<1000000000000000000)(h:By xs):By (jx xs):=by
 intro x b;rw[jx,agl] at b;rcases b with b|b
 ·exact adx h _ _ x b
 ·simp[Ql,ajj] at b;obtain⟨i,_,rfl⟩:=b;rw[XL c];omega
def alg:GD S2.uZ:=by intro x b;simp[S2.uZ,ajj] at b;obtain⟨i,_,rfl⟩:=b;exact Qh _
def ju{xs}(h:By xs)(d:A xs<274877900000):S2.cI xs=b7 xs:=by
 have g:e7 (A xs) 64 56<64:=Nat.mod_lt _ (by omega);have f:A (jx xs)=A xs+1+e7 (A xs) 64 56+8:=by unfold jx;rw[abA,kV];rfl
 have⟨c,_,b⟩:=XK (alf (by omega) h) S2.nO S2.u7 alg (A (jx xs)/64) (by omega);unfold S2.cI b7;rw[ale (by omega),c,bD,bD,bV b]
