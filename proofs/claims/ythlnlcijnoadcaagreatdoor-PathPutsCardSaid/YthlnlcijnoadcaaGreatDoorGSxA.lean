/- This file proves that a tracked block of integers may be read as one that nobody writes any more. Conditions: nothing but slices leads to it. -/
import Derived.Test.YthlnlcijnoadcaaGreatDoorGMd
noncomputable section
set_option linter.all false
namespace Go.Sy
open Go
mutual
def fz (b:Nat) (k:IntKind) (l:List Int):SV->SV
 | .sl b' o i z len cap ex wh=>match Nat.beq b' b with
  |true=>match wh with
   |true=>.ro true k l
   |false=>.ro true k ((l.drop i).take len)
  |false=>.sl b' o i z len cap ex wh
 | .agg ps=>.agg (Ii b k l ps)
 | .bC vs=>.bC (Ii b k l vs)
 | .iface t x=>.iface t (fz b k l x)
 | .fn f u v=>.fn f (Ii b k l u) (Ii b k l v)
 |v=>v
def Ii (b:Nat) (k:IntKind) (l:List Int):List SV->List SV
 | []=>[]
 |x::xs=>fz b k l x::Ii b k l xs
end
mutual
def lW (b n:Nat):SV->Bool
 | .ptr b' _ _=>!Nat.beq b' b
 | .sl b' o i z len _ _ wh=>match Nat.beq b' b with
  |true=>Nat.beq o 0&&Nat.beq z 1&&(match wh with
   |true=>Nat.beq i 0&&decide (len=n)
   |false=>decide (i+len<=n))
  |false=>true
 | .agg ps=>lR b n ps
 | .bC vs=>lR b n vs
 | .iface _ x=>lW b n x
 | .fn _ u v=>aa (lR b n u) (lR b n v)
 | .bK b' _ _ _ _=>!Nat.beq b' b
 | .dm b' _ _ _ _=>!Nat.beq b' b
 | .qQ b'=>!Nat.beq b' b
 |_=>true
def lR (b n:Nat):List SV->Bool
 | []=>true
 |x::xs=>aa (lW b n x) (lR b n xs)
end
def fzB (b:Nat) (k:IntKind) (l:List Int):Blk->Blk
 | .b ps=>.b (Ii b k l ps)
 | .g g=>.g g
def xh (b n:Nat):Blk->Bool
 | .b ps=>lR b n ps
 | .g (some L)=>L.t.all (hJ b)
 | .g none=>true
def lQ (b n:Nat):List Blk->Nat->Bool
 | [],_=>true
 |x::xs,i=>aa (match Nat.beq i b with|true=>true|false=>xh b n x) (lQ b n xs (i+1))
theorem nk (b:Nat) (k:IntKind) (l:List Int):∀ps:List SV,av (Ii b k l ps)=av ps
 | []=>rfl
 |x::xs=>by
  have ih:=nk b k l xs
  have hx:gS (fz b k l x)=gS x:=by
   cases x<;>simp only [fz]<;>try rfl
   split
   ·split<;>rfl
   ·rfl
  simp only [Ii,av,hx,ih]
theorem Bm (b:Nat) (k:IntKind) (l:List Int) {x:SV} (h:bn x=true):bn (fz b k l x)=true:=by
 cases x<;>simp only [fz]<;>try exact h
 split
 ·split<;>rfl
 ·rfl
section
variable {e e':Env} {b:Nat} {k:IntKind} {l:List Int}
mutual
theorem CM (hz:∀n o,e.z n=some o->e'.z n=some o) (hn:e'.n0<=e.n0) (hr:∀j q,j≠b->e.r j=some q->e'.r j=some q)
  (H:∀i len cap ex v' xs,(xs=l/\i=0/\len=l.length\/xs=(l.drop i).take len/\i+len<=l.length)->VR e (.sl b 0 i 1 len cap ex false) v'->lV e' true k xs v'):
  ∀(v:SV) (v':Value),lW b l.length v=true->VR e v v'->VR e' (fz b k l v) v'
 | .bool _,_,_,h=>h
 | .int _ _,_,_,h=>h
 | .str _,_,_,h=>h
 | .nl _,_,_,h=>h
 | .ints _ _ _,_,_,h=>h
 | .ptr b' o i,_,g,⟨p,h1,h2⟩=>⟨p,hr b' p (λq=>by subst q;simp [lW] at g) h1,h2⟩
 | .sl b' o i z len cap ex wh,v',g,h=>by
  simp only [fz,lW] at g ⊢
  cases hb:Nat.beq b' b with
  |true=>
   obtain rfl:=aaA hb
   simp only [hb,aac] at g ⊢
   obtain ⟨⟨h1,h2⟩,h3⟩:=g
   obtain rfl:=aaA h1
   obtain rfl:=aaA h2
   have h':VR e (.sl b' 0 i 1 len cap ex false) v':=h
   cases wh with
   |true=>
    simp only [aac,aab] at h3 ⊢
    exact H i len cap ex v' l (.inl ⟨rfl,aaA h3.1,h3.2⟩) h'
   |false=>
    simp only [aab] at h3 ⊢
    exact H i len cap ex v' _ (.inr ⟨rfl,h3⟩) h'
  |false=>
   have hne:b'≠b:=λq=>by subst q;simp at hb
   show VR e' (.sl b' o i z len cap ex wh) v'
   rcases h with h|⟨p,c,a,h1,h2⟩
   ·exact .inl h
   ·exact .inr ⟨p,c,a,hr b' p hne h1,h2⟩
 | .ro f k xs,v',_,h=>VR.mono' hz hn (.ro f k xs) v' (λ_ _ q=>by cases q) h
 | .gf f xss,v',_,h=>VR.mono' hz hn (.gf f xss) v' (λ_ _ q=>by cases q) h
 | .aJ f z len g,v',_,h=>VR.mono' hz hn (.aJ f z len g) v' (λ_ _ q=>by cases q) h
 | .oF k xs i,v',_,h=>VR.mono' hz hn (.oF k xs i) v' (λ_ _ q=>by cases q) h
 | .rE f xss i,v',_,h=>VR.mono' hz hn (.rE f xss i) v' (λ_ _ q=>by cases q) h
 | .lX f z len g a b c,v',_,h=>VR.mono' hz hn (.lX f z len g a b c) v' (λ_ _ q=>by cases q) h
 | .agg ps,_,g,⟨ys,h1,h2⟩=>⟨ys,Ij hz hn hr H ps ys (by simpa only [lW] using g) h1,h2⟩
 | .bC vs,_,g,⟨ys,h1,h2⟩=>⟨ys,CN hz hn hr H vs ys (by simpa only [lW] using g) h1,h2⟩
 | .iface _ x,_,g,⟨y,h1,h2⟩=>⟨y,CM hz hn hr H x y (by simpa only [lW] using g) h1,h2⟩
 | .fn _ a c,_,g,⟨ys,us,h1,h2,h3⟩=>by
  simp only [lW,aC] at g
  exact ⟨ys,us,CN hz hn hr H a ys g.1 h1,CN hz hn hr H c us g.2 h2,h3⟩
 | .rows _ _ _,_,_,h=>h
 | .bK b' _ _ _ _,_,g,h=>by
  rcases h with h|⟨p,c,a,h1,h2⟩
  ·exact .inl h
  ·exact .inr ⟨p,c,a,hr b' p (λq=>by subst q;simp [lW] at g) h1,h2⟩
 | .dm b' _ _ _ _,_,g,⟨p,h1,h2⟩=>⟨p,hr b' p (λq=>by subst q;simp [lW] at g) h1,h2⟩
 | .qQ b',_,g,⟨p,h1,h2⟩=>⟨p,hr b' p (λq=>by subst q;simp [lW] at g) h1,h2⟩
 | .dU _ _,_,_,h=>h
theorem CN (hz:∀n o,e.z n=some o->e'.z n=some o) (hn:e'.n0<=e.n0) (hr:∀j q,j≠b->e.r j=some q->e'.r j=some q)
  (H:∀i len cap ex v' xs,(xs=l/\i=0/\len=l.length\/xs=(l.drop i).take len/\i+len<=l.length)->VR e (.sl b 0 i 1 len cap ex false) v'->lV e' true k xs v'):
  ∀(vs:List SV) (ys:List Value),lR b l.length vs=true->LR e vs ys->LR e' (Ii b k l vs) ys
 | [],_,_,h=>h
 |x::xs,_,g,⟨y,zs,h1,h2,h3⟩=>by
  simp only [lR,aC] at g
  exact ⟨y,zs,CM hz hn hr H x y g.1 h1,CN hz hn hr H xs zs g.2 h2,h3⟩
theorem Ij (hz:∀n o,e.z n=some o->e'.z n=some o) (hn:e'.n0<=e.n0) (hr:∀j q,j≠b->e.r j=some q->e'.r j=some q)
  (H:∀i len cap ex v' xs,(xs=l/\i=0/\len=l.length\/xs=(l.drop i).take len/\i+len<=l.length)->VR e (.sl b 0 i 1 len cap ex false) v'->lV e' true k xs v'):
  ∀(vs:List SV) (ys:List Value),lR b l.length vs=true->PR e vs ys->PR e' (Ii b k l vs) ys
 | [],_,_,h=>h
 |x::xs,ys,g,h=>by
  simp only [lR,aC] at g
  have ih:=λzs=>Ij hz hn hr H xs zs g.2
  have iv:=λy=>CM hz hn hr H x y g.1
  by_cases hx:bn x=true
  ·rw [PR.cons hx] at h
   obtain ⟨y,zs,h1,h2,h3⟩:=h
   rw [Ii,PR.cons (Bm b k l hx)]
   exact ⟨y,zs,iv y h1,ih zs h2,h3⟩
  ·cases x<;>simp [bn] at hx
   ·obtain ⟨zs,h1,h2⟩:=h
    exact ⟨zs,ih zs h1,h2⟩
   ·obtain ⟨us,zs,h0,h1,h2,h3⟩:=h
    exact ⟨us,zs,h0,λi hi=>PR.mono (e:=⟨λ_=>none,e.z,e.n0,[],λ_=>none⟩) (e':=⟨λ_=>none,e'.z,e'.n0,[],λ_=>none⟩) ⟨(λ_ _ h=>by cases h),hz,hn⟩ (h1 i hi),ih zs h2,h3⟩
end
end
def St.fz (b:Nat) (s:St):Option (St×Bool):=match s.h[b]? with
 |some (.b [.ints k n l])=>some (⟨s.t.map (λo=>o.map (Sy.fz b k l)),(s.h.map (fzB b k l)).set b (.b []),s.ob⟩,
   aa (decide (l.length=n)) (aa (s.t.all λo=>match o with|some v=>lW b n v|none=>true) (lQ b n s.h 0)))
 |_=>none
theorem zG {b n:Nat}:∀{h:List Blk} {j i:Nat} {x:Blk},lQ b n h j=true->h[i]? =some x->j+i≠b->xh b n x=true
 | [],_,_,_,_,h,_=>by simp at h
 |y::h,j,0,x,g,e,hne=>by
  simp only [aa2,No] at e
  subst e
  simp only [lQ,aC] at g
  have:=g.1
  cases hq:Nat.beq j b with
  |true=>exact absurd (aaA hq) hne
  |false=>simpa only [hq] using this
 |y::h,j,i+1,x,g,e,hne=>by
  simp only [lQ,aC] at g
  exact zG (j:=j+1) g.2 (by simpa using e) (by omega)
theorem bE.freeze {k b:Nat} {s s':St} (hb:k<=b) (h:s.fz b=some (s',true)):bE k s s':=by
 unfold St.fz at h
 split at h
 case h_2=>cases h
 rename_i K n l GZ
 simp only [No,aae,aC,aab] at h
 obtain ⟨rfl,rfl,h1,h2⟩:=h
 rw [aah] at h1
 intro B e w t' hB hl R
 have hlt:b<s.h.length:=(aal.1 GZ).1
 -- the new yQ
 have key:∃e':Env,e'.m=e.m/\e'.n0=e.n0/\e'.y=e.y/\(∀j,e'.r j=if j=b then none else e.r j)/\(∀n o,e.z n=some o->e'.z n=some o)/\
   (∀n c t fr,e'.z n=some (c,t,fr)->w.heap[n]? =some (.cells c t fr))/\(∀n x,e'.z n=some x->e.z n=some x\/B.w.heap.size<=n)/\(∀i p,i≠b->e.r i=some p->e'.z p.n=none)/\
   (∀i len cap ex v' xs,(xs=l/\i=0/\len=l.length\/xs=(l.drop i).take len/\i+len<=l.length)->VR e (.sl b 0 i 1 len cap ex false) v'->lV e' true K xs v'):=by
  have empty:∀(e':Env) (i len:Nat) (a:Option Addr) (xs:List Int),len=0->(xs=l/\i=0/\len=l.length\/xs=(l.drop i).take len/\i+len<=l.length)->lV e' true K xs (.slice a 0 0):=λe' i len a xs h0 hx=>by
   refine .inl ⟨?_,a,0,rfl,λ_=>rfl⟩
   rcases hx with ⟨rfl,_,h⟩|⟨rfl,_⟩
   ·exact aaw.1 (by omega)
   ·rw [h0];rfl
  rcases R.ew b _ GZ with ⟨g1,g2⟩|⟨p,o,g1,g2,c,t,rfl,g3,g4,g5⟩
  ·refine ⟨e,rfl,rfl,rfl,λj=>?_,λ_ _ h=>h,R.eU,λ_ _ h=>.inl h,λi p _ hi=>R.sep i p hi,λi len cap ex v' xs hx hv=>?_⟩
   ·split
    ·rename_i q;rw [q,g2]
    ·rfl
   ·rcases hv with ⟨q1,q2,a,rfl⟩|⟨p,_,_,q1,_⟩
    ·exact empty e i len a xs q1 hx
    ·rw [g2] at q1;cases q1
  ·have PK:e.z p.n=none:=R.sep b p g1
   have hnew:B.w.heap.size<=p.n:=by
    rcases R.news b p g1 with q|q
    ·have:=R.kr b p q;omega
    ·exact q
   refine ⟨{e with r:=λj=>if j=b then none else e.r j,z:=λm=>if m=p.n then some (c,t,(0,0)) else e.z m},rfl,rfl,rfl,λj=>rfl,λm o hm=>?_,λm c' t' fr hm=>?_,λm x hm=>?_,λi q hi hq=>?_,λi len cap ex v' xs hx hv=>?_⟩
   ·show (if m=p.n then _ else _)=_
    rw [aaC (λq=>by rw [q,PK] at hm;cases hm)];exact hm
   ·have hm':(if m=p.n then some (c,t,(0,0)) else e.z m)=some (c',t',fr):=hm
    split at hm'
    ·rename_i q;cases hm';rw [q];exact g2
    ·exact R.eU m c' t' fr hm'
   ·have hm':(if m=p.n then some (c,t,(0,0)) else e.z m)=some x:=hm
    split at hm'
    ·rename_i q;right;omega
    ·exact .inl hm'
   ·show (if q.n=p.n then _ else _)=_
    rw [aaC (λh=>hi (R.inj i b q p hq g1 h))]
    exact R.sep i q hq
   ·rcases hv with ⟨q1,q2,a,rfl⟩|⟨p',cap',a,q1,rfl,q2,q3,q4,q5,q6⟩
    ·exact empty _ i len a xs q1 hx
    ·rw [g1] at q1;cases q1
     by_cases hc:cap'=0
     ·have h0:len=0:=by omega
      subst hc;subst h0
      exact empty _ i 0 _ xs rfl hx
     ·have ha:=q2 hc
      have hs:=q6 hc
      have hcell:aU K l=(c.toList.drop p.base).take l.length:=by
       obtain ⟨zs,z1,z2⟩:=g5
       rw [PR] at z1;subst z1
       rw [aaz,bN rfl] at z2
       rw [z2.symm]
       simp [av,gS]
      have hn:av [SV.ints K l.length l]=l.length:=by simp [av,gS]
      rw [hn] at g4
      refine .inr ⟨p.n,a,cap',c,t,(0,0),?_,aaM rfl,λ_=>?_,?_,?_,?_⟩
      ·congr 1
       rcases hx with ⟨rfl,rfl,h⟩|⟨rfl,h⟩
       ·exact h
       ·rw [aaU,aaN];omega
      ·show e.n0<=p.n
       have:=R.n0;have:=R.cI;omega
      ·rcases hx with ⟨rfl,rfl,hh⟩|⟨rfl,hh⟩
       ·rw [ha,hcell];simp
       ·rw [cw,dX,hcell,ha,adi,adD,aa4,aaU,aaN]
        rw [abC,ad3]
      ·rcases hx with ⟨rfl,rfl,hh⟩|⟨rfl,hh⟩
       ·omega
       ·rw [aaU,aaN];omega
      ·rw [ha];omega
 obtain ⟨e',k1,k2,k3,k4,k5,k6,k7,k8,k9⟩:=key
 have hr:∀j q,j≠b->e.r j=some q->e'.r j=some q:=λj q hj hq=>by rw [k4,aaC hj];exact hq
 have hr':∀j q,e'.r j=some q->j≠b/\e.r j=some q:=λj q hq=>by
  rw [k4] at hq
  split at hq
  ·cases hq
  ·rename_i hj;exact ⟨hj,hq⟩
 have hk:∀j q,B.e.r j=some q->j≠b:=λj q hq h=>by have:=R.kr j q hq;omega
 have hfz:=λv v'=>CM (e:=e) (e':=e') (b:=b) (k:=K) (l:=l) k5 (by rw [k2];exact aaf _) hr k9 v v'
 have hfp:=λv v'=>Ij (e:=e) (e':=e') (b:=b) (k:=K) (l:=l) k5 (by rw [k2];exact aaf _) hr k9 v v'
 refine ⟨e',k1,⟨by simpa using hl.1,λi v v' a c=>?_⟩,?_⟩
 ·rw [aaO] at a
  obtain ⟨o,a1,a2⟩:=aag.1 a
  obtain ⟨u,rfl,a3⟩:=aag.1 a2
  subst a3
  exact hfz u v' (h1 _ (aaG a1)) (hl.2 i u v' a1 c)
 ·have gt:∀i x,((s.h.map (fzB b K l)).set b (.b []))[i]? =some x->(i=b/\x= .b [])\/(i≠b/\∃y,s.h[i]? =some y/\x=fzB b K l y/\xh b l.length y=true):=λi x hi=>by
   rw [List.getElem?_set] at hi
   split at hi
   ·rename_i q
    split at hi
    ·cases hi;exact .inl ⟨q.symm,rfl⟩
    ·cases hi
   ·rename_i q
    rw [aaO] at hi
    obtain ⟨y,y1,y2⟩:=aag.1 hi
    exact .inr ⟨λc=>q c.symm,y,y1,y2.symm,zG h2 y1 (by omega)⟩
  exact {R with
   inj:=λi j p q hi hj=>R.inj i j p q (hr' i p hi).2 (hr' j q hj).2
   dom:=λi p hi=>by
    have:=R.dom i p (hr' i p hi).2
    simpa using this
   sep:=λi p hi=>k8 i p (hr' i p hi).1 (hr' i p hi).2
   eU:=k6
   bp:=λm x hm=>by
    rcases k7 m x hm with q|q
    ·exact R.bp m x q
    ·exact .inr q
   dU:=λg K xs hg=>(R.dU g K xs hg).imp λc ⟨t,fr,h1,h2⟩=>⟨t,fr,k5 _ _ h1,h2⟩
   news:=λi p hi=>R.news i p (hr' i p hi).2
   bA:=λi p hi=>hr i p (hk i p hi) (R.bA i p hi)
   bM:=λm x hm=>k5 m x (R.bM m x hm)
   n0:=by rw [k2];exact R.n0
   ew:=λi ps hi=>by
    rcases gt i _ hi with ⟨rfl,q⟩|⟨hne,y,y1,y2,y3⟩
    ·cases q;exact .inl ⟨rfl,by rw [k4,aaM rfl]⟩
    ·cases y with
     |g g=>cases y2
     |b Kr=>
      cases y2
      rcases R.ew i Kr y1 with ⟨g1,g2⟩|⟨p,o,g1,g2,c,t,rfl,g3,g4,g5⟩
      ·exact .inl ⟨by rw [nk];exact g1,by rw [k4,aaC hne];exact g2⟩
      ·exact .inr ⟨p,_,hr i p hne g1,g2,c,t,rfl,g3,by rw [nk];exact g4,by rw [nk];exact hfp Kr _ y3 g5⟩
   gap:=λi g hi=>by
    rcases gt i _ hi with ⟨_,q⟩|⟨hne,y,y1,y2,y3⟩
    ·cases q
    ·cases y with
     |b Kr=>cases y2
     |g g0=>
      cases y2
      refine ⟨by rw [k4,aaC hne];exact (R.gap i _ y1).1,(R.gap i _ y1).2.keep (λ_ _ h=>h) (by rw [k3]) λL hL v v' hv DB=>?_⟩
      subst hL
      have:=aah.1 y3 (some v) hv
      exact VR.mono' (e:=e) (e':=e') k5 (by rw [k2];exact aaf _) v v' (λj p hu hp=>hr j p (λq=>by subst q;simp [hJ,hu] at this) hp) DB
   yi:=by rw [k3];exact R.yi
   yb:=by rw [k3];exact R.yb
   fO:=by have:=R.fO;simpa using this
   fc:=by rw [k1];exact R.fc
   gJ:=by rw [k1];exact R.gJ}
def fzR (b m:Nat) (v:SV) (h:List Blk):Option (SV×List Blk×Bool):=match (St.fz b ⟨[some v],h,true⟩) with
 |some (⟨[some u],h1,_⟩,p)=>match St.dn m ⟨[some u],h1,true⟩ with
  |some ⟨_,h2,_⟩=>some (u,h2,p)
  |none=>none
 |_=>none
theorem ai.fz {P:Program} {f:FuncId} {args:List SV} {h h1 h2:List Blk} {v u:SV} {p:Bool} (b m:Nat) (hb:h.length<=b) (hm:h.length<=m) (g:ai P f args h v h1) (e:fzR b m v h1=some (u,h2,p)) (hp:p=true):ai P f args h u h2:=by
 subst hp
 unfold fzR at e
 split at e
 case h_2=>cases e
 rename_i u' h1' ob p' he
 split at e
 case h_2=>cases e
 rename_i t2 Dz o2 ht
 simp only [No,aae] at e
 obtain ⟨rfl,rfl,rfl⟩:=e
 have e1:=bE.freeze hb he
 have e2:=bE.dn hm ht
 unfold St.dn at ht
 split at ht
 case isFalse=>cases ht
 cases ht
 exact g.post ((e1.trans (bE.same rfl rfl)).trans e2)
end Go.Sy
