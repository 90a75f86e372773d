/- This file holds the texts SxA, SxB, a section each. No conditions beyond those in the theorems. -/
import Derived.Test.YtibfpjeeanppjaaGreatYMd
set_option linter.all false
section
namespace Go.Sy
open Go
mutual
def fz (b:Nat) (k:IntKind) (l:List Int):SV→SV
 | .sl b' o i z len cap ex wh=>match Nat.beq b' b with
  |true=>match wh with
   |true=>.ro true k l
   |false=>.ro true k ((l.drop i).take len)
  |false=>.sl b' o i z len cap ex wh
 | .agg ps=>.agg (PK b k l ps)
 | .aT vs=>.aT (PK b k l vs)
 | .iface t x=>.iface t (fz b k l x)
 | .fn f u v=>.fn f (PK b k l u) (PK b k l v)
 |v=>v
def PK (b:Nat) (k:IntKind) (l:List Int):List SV→List SV
 | []=>[]
 |x::xs=>fz b k l x::PK b k l xs
end
mutual
def HX (b n:Nat):SV→Bool
 | .ptr b' _ _=>!Nat.beq b' b
 | .sl b' o i z len _ _ wh=>match Nat.beq b' b with
  |true=>Nat.beq o 0&&Nat.beq z 1&&(match wh with
   |true=>Nat.beq i 0&&decide (len=n)
   |false=>decide (i+len≤n))
  |false=>true
 | .agg ps=>ye b n ps
 | .aT vs=>ye b n vs
 | .iface _ x=>HX b n x
 | .fn _ u v=>aa (ye b n u) (ye b n v)
 |_=>true
def ye (b n:Nat):List SV→Bool
 | []=>true
 |x::xs=>aa (HX b n x) (ye b n xs)
end
def fzB (b:Nat) (k:IntKind) (l:List Int):Blk→Blk
 | .b ps=>.b (PK b k l ps)
 | .g g=>.g g
def aa8 (b n:Nat):Blk→Bool
 | .b ps=>ye b n ps
 | .g (some L)=>L.t.all (v8 b)
 | .g none=>true
def PM (b n:Nat):List Blk→Nat→Bool
 | [],_=>true
 |x::xs,i=>aa (match Nat.beq i b with|true=>true|false=>aa8 b n x) (PM b n xs (i+1))
theorem oY (b:Nat) (k:IntKind) (l:List Int):∀ps:List SV,aC (PK b k l ps)=aC ps
 | []=>rfl
 |x::xs=>by
  have ih:=oY b k l xs
  have hx:xM (fz b k l x)=xM x:=by
   cases x<;>simp only [fz]<;>try rfl
   split
   ·split<;>rfl
   ·rfl
  simp only [PK,aC,hx,ih]
theorem Fy (b:Nat) (k:IntKind) (l:List Int) {x:SV} (h:aU x=true):aU (fz b k l x)=true:=by
 cases x<;>simp only [fz]<;>try exact h
 split
 ·split<;>rfl
 ·rfl
section
variable {e e':Env} {b:Nat} {k:IntKind} {l:List Int}
mutual
theorem Ib (hz:∀n o,e.z n=some o→e'.z n=some o) (hn:e'.n0≤e.n0) (hr:∀j q,j≠b→e.r j=some q→e'.r j=some q)
  (H:∀i len cap ex v' xs,(xs=l∧i=0∧len=l.length∨xs=(l.drop i).take len∧i+len≤l.length)→VR e (.sl b 0 i 1 len cap ex false) v'→pz e' true k xs v'):
  ∀(v:SV) (v':Value),HX b l.length v=true→VR e v v'→VR e' (fz b k l v) v'
 | .bool _,_,_,h=>h
 | .int _ _,_,_,h=>h
 | .str _,_,_,h=>h
 | .nl _,_,_,h=>h
 | .ints _ _ _,_,_,h=>h
 | .ptr b' o i,_,g,⟨p,h1,h2⟩=>⟨p,hr b' p (fun q=>by subst q;simp [HX] at g) h1,h2⟩
 | .sl b' o i z len cap ex wh,v',g,h=>by
  simp only [fz,HX] at g ⊢
  cases hb:Nat.beq b' b with
  |true=>
   obtain rfl:=Nat.eq_of_beq_eq_true hb
   simp only [hb,Bool.and_eq_true] at g ⊢
   obtain ⟨⟨h1,h2⟩,h3⟩:=g
   obtain rfl:=Nat.eq_of_beq_eq_true h1
   obtain rfl:=Nat.eq_of_beq_eq_true h2
   have h':VR e (.sl b' 0 i 1 len cap ex false) v':=h
   cases wh with
   |true=>
    simp only [Bool.and_eq_true,decide_eq_true_eq] at h3 ⊢
    exact H i len cap ex v' l (.inl ⟨rfl,Nat.eq_of_beq_eq_true h3.1,h3.2⟩) h'
   |false=>
    simp only [decide_eq_true_eq] at h3 ⊢
    exact H i len cap ex v' _ (.inr ⟨rfl,h3⟩) h'
  |false=>
   have hne:b'≠b:=fun q=>by subst q;simp at hb
   show VR e' (.sl b' o i z len cap ex wh) v'
   rcases h with h|⟨p,c,a,h1,h2⟩
   ·exact .inl h
   ·exact .inr ⟨p,c,a,hr b' p hne h1,h2⟩
 | .ro f k xs,v',_,h=>VR.mono' hz hn (.ro f k xs) v' (fun _ _ q=>by cases q) h
 | .iN f xss,v',_,h=>VR.mono' hz hn (.iN f xss) v' (fun _ _ q=>by cases q) h
 | .oJ f z len g,v',_,h=>VR.mono' hz hn (.oJ f z len g) v' (fun _ _ q=>by cases q) h
 | .qQ k xs i,v',_,h=>VR.mono' hz hn (.qQ k xs i) v' (fun _ _ q=>by cases q) h
 | .uX f xss i,v',_,h=>VR.mono' hz hn (.uX f xss i) v' (fun _ _ q=>by cases q) h
 | .o5 f z len g a b c,v',_,h=>VR.mono' hz hn (.o5 f z len g a b c) v' (fun _ _ q=>by cases q) h
 | .agg ps,_,g,⟨ys,h1,h2⟩=>⟨ys,PO hz hn hr H ps ys (by simpa only [HX] using g) h1,h2⟩
 | .aT vs,_,g,⟨ys,h1,h2⟩=>⟨ys,Ic hz hn hr H vs ys (by simpa only [HX] using g) h1,h2⟩
 | .iface _ x,_,g,⟨y,h1,h2⟩=>⟨y,Ib hz hn hr H x y (by simpa only [HX] using g) h1,h2⟩
 | .fn _ a c,_,g,⟨ys,us,h1,h2,h3⟩=>by
  simp only [HX,av] at g
  exact ⟨ys,us,Ic hz hn hr H a ys g.1 h1,Ic hz hn hr H c us g.2 h2,h3⟩
theorem Ic (hz:∀n o,e.z n=some o→e'.z n=some o) (hn:e'.n0≤e.n0) (hr:∀j q,j≠b→e.r j=some q→e'.r j=some q)
  (H:∀i len cap ex v' xs,(xs=l∧i=0∧len=l.length∨xs=(l.drop i).take len∧i+len≤l.length)→VR e (.sl b 0 i 1 len cap ex false) v'→pz e' true k xs v'):
  ∀(vs:List SV) (ys:List Value),ye b l.length vs=true→LR e vs ys→LR e' (PK b k l vs) ys
 | [],_,_,h=>h
 |x::xs,_,g,⟨y,zs,h1,h2,h3⟩=>by
  simp only [ye,av] at g
  exact ⟨y,zs,Ib hz hn hr H x y g.1 h1,Ic hz hn hr H xs zs g.2 h2,h3⟩
theorem PO (hz:∀n o,e.z n=some o→e'.z n=some o) (hn:e'.n0≤e.n0) (hr:∀j q,j≠b→e.r j=some q→e'.r j=some q)
  (H:∀i len cap ex v' xs,(xs=l∧i=0∧len=l.length∨xs=(l.drop i).take len∧i+len≤l.length)→VR e (.sl b 0 i 1 len cap ex false) v'→pz e' true k xs v'):
  ∀(vs:List SV) (ys:List Value),ye b l.length vs=true→PR e vs ys→PR e' (PK b k l vs) ys
 | [],_,_,h=>h
 |x::xs,ys,g,h=>by
  simp only [ye,av] at g
  have ih:=fun zs=>PO hz hn hr H xs zs g.2
  have iv:=fun y=>Ib hz hn hr H x y g.1
  by_cases hx:aU x=true
  ·rw [PR.cons hx] at h
   obtain ⟨y,zs,h1,h2,h3⟩:=h
   rw [PK,PR.cons (Fy b k l hx)]
   exact ⟨y,zs,iv y h1,ih zs h2,h3⟩
  ·cases x<;>simp [aU] at hx
   obtain ⟨zs,h1,h2⟩:=h
   exact ⟨zs,ih zs h1,h2⟩
end
end
def St.fz (b:Nat) (s:St):Option (St×Bool):=match s.h[b]? with
 |some (.b [.ints k n l])=>some (⟨s.t.map (fun o=>o.map (Sy.fz b k l)),(s.h.map (fzB b k l)).set b (.b []),s.ob⟩,
   aa (decide (l.length=n)) (aa (s.t.all fun o=>match o with|some v=>HX b n v|none=>true) (PM b n s.h 0)))
 |_=>none
theorem Du {b n:Nat}:∀{h:List Blk} {j i:Nat} {x:Blk},PM b n h j=true→h[i]? =some x→j+i≠b→aa8 b n x=true
 | [],_,_,_,_,h,_=>by simp at h
 |y::h,j,0,x,g,e,hne=>by
  simp only [List.getElem?_cons_zero,Option.some.injEq] at e
  subst e
  simp only [PM,av] at g
  have:=g.1
  cases hq:Nat.beq j b with
  |true=>exact absurd (Nat.eq_of_beq_eq_true hq) hne
  |false=>simpa only [hq] using this
 |y::h,j,i+1,x,g,e,hne=>by
  simp only [PM,av] at g
  exact Du (j:=j+1) g.2 (by simpa using e) (by omega)
theorem bq.freeze {k b:Nat} {s s':St} (hb:k≤b) (h:s.fz b=some (s',true)):bq k s s':=by
 unfold St.fz at h
 split at h
 case h_2=>cases h
 rename_i K n l Jr
 simp only [Option.some.injEq,Prod.mk.injEq,av,decide_eq_true_eq] at h
 obtain ⟨rfl,rfl,h1,h2⟩:=h
 rw [List.all_eq_true] at h1
 intro B e w t' hB hl R
 have hlt:b<s.h.length:=(List.getElem?_eq_some_iff.1 Jr).1
 -- the new Cq
 have key:∃e':Env,e'.m=e.m∧e'.n0=e.n0∧e'.y=e.y∧(∀j,e'.r j=if j=b then none else e.r j)∧(∀n o,e.z n=some o→e'.z n=some o)∧
   (∀n c t fr,e'.z n=some (c,t,fr)→w.heap[n]? =some (.cells c t fr))∧(∀n x,e'.z n=some x→e.z n=some x∨B.w.heap.size≤n)∧(∀i p,i≠b→e.r i=some p→e'.z p.n=none)∧
   (∀i len cap ex v' xs,(xs=l∧i=0∧len=l.length∨xs=(l.drop i).take len∧i+len≤l.length)→VR e (.sl b 0 i 1 len cap ex false) v'→pz e' true K xs v'):=by
  have empty:∀(e':Env) (i len:Nat) (a:Option Addr) (xs:List Int),len=0→(xs=l∧i=0∧len=l.length∨xs=(l.drop i).take len∧i+len≤l.length)→pz e' true K xs (.slice a 0 0):=fun e' i len a xs h0 hx=>by
   refine .inl ⟨?_,a,0,rfl,fun _=>rfl⟩
   rcases hx with ⟨rfl,_,h⟩|⟨rfl,_⟩
   ·exact List.length_eq_zero_iff.1 (by omega)
   ·rw [h0];rfl
  rcases R.gj b _ Jr with ⟨g1,g2⟩|⟨p,o,g1,g2,c,t,rfl,g3,g4,g5⟩
  ·refine ⟨e,rfl,rfl,rfl,fun j=>?_,fun _ _ h=>h,R.g6,fun _ _ h=>.inl h,fun i p _ hi=>R.sep i p hi,fun i len cap ex v' xs hx hv=>?_⟩
   ·split
    ·rename_i q;rw [q,g2]
    ·rfl
   ·rcases hv with ⟨q1,q2,a,rfl⟩|⟨p,_,_,q1,_⟩
    ·exact empty e i len a xs q1 hx
    ·rw [g2] at q1;cases q1
  ·have hpz:e.z p.n=none:=R.sep b p g1
   have hnew:B.w.heap.size≤p.n:=by
    rcases R.news b p g1 with q|q
    ·have:=R.kr b p q;omega
    ·exact q
   refine ⟨{e with r:=fun j=>if j=b then none else e.r j,z:=fun m=>if m=p.n then some (c,t,(0,0)) else e.z m},rfl,rfl,rfl,fun j=>rfl,fun m o hm=>?_,fun m c' t' fr hm=>?_,fun m x hm=>?_,fun i q hi hq=>?_,fun i len cap ex v' xs hx hv=>?_⟩
   ·show (if m=p.n then _ else _)=_
    rw [if_neg (fun q=>by rw [q,hpz] at hm;cases hm)];exact hm
   ·have hm':(if m=p.n then some (c,t,(0,0)) else e.z m)=some (c',t',fr):=hm
    split at hm'
    ·rename_i q;cases hm';rw [q];exact g2
    ·exact R.g6 m c' t' fr hm'
   ·have hm':(if m=p.n then some (c,t,(0,0)) else e.z m)=some x:=hm
    split at hm'
    ·rename_i q;right;omega
    ·exact .inl hm'
   ·show (if q.n=p.n then _ else _)=_
    rw [if_neg (fun h=>hi (R.inj i b q p hq g1 h))]
    exact R.sep i q hq
   ·rcases hv with ⟨q1,q2,a,rfl⟩|⟨p',cap',a,q1,rfl,q2,q3,q4,q5,q6⟩
    ·exact empty _ i len a xs q1 hx
    ·rw [g1] at q1;cases q1
     by_cases hc:cap'=0
     ·have h0:len=0:=by omega
      subst hc;subst h0
      exact empty _ i 0 _ xs rfl hx
     ·have ha:=q2 hc
      have hs:=q6 hc
      have hcell:aP K l=(c.toList.drop p.base).take l.length:=by
       obtain ⟨zs,z1,z2⟩:=g5
       rw [PR] at z1;subst z1
       rw [List.append_nil,aG rfl] at z2
       rw [z2.symm]
       simp [aC,xM]
      have hn:aC [SV.ints K l.length l]=l.length:=by simp [aC,xM]
      rw [hn] at g4
      refine .inr ⟨p.n,a,cap',c,t,(0,0),?_,if_pos rfl,fun _=>?_,?_,?_,?_⟩
      ·congr 1
       rcases hx with ⟨rfl,rfl,h⟩|⟨rfl,h⟩
       ·exact h
       ·rw [List.length_take,List.length_drop];omega
      ·show e.n0≤p.n
       have:=R.n0;have:=R.cW;omega
      ·rcases hx with ⟨rfl,rfl,hh⟩|⟨rfl,hh⟩
       ·rw [ha,hcell];simp
       ·rw [cI,ee,hcell,ha,List.drop_take,List.take_take,List.drop_drop,List.length_take,List.length_drop]
        rw [Nat.zero_add,Nat.mul_one]
      ·rcases hx with ⟨rfl,rfl,hh⟩|⟨rfl,hh⟩
       ·omega
       ·rw [List.length_take,List.length_drop];omega
      ·rw [ha];omega
 obtain ⟨e',k1,k2,k3,k4,k5,k6,k7,k8,k9⟩:=key
 have hr:∀j q,j≠b→e.r j=some q→e'.r j=some q:=fun j q hj hq=>by rw [k4,if_neg hj];exact hq
 have hr':∀j q,e'.r j=some q→j≠b∧e.r j=some q:=fun j q hq=>by
  rw [k4] at hq
  split at hq
  ·cases hq
  ·rename_i hj;exact ⟨hj,hq⟩
 have hk:∀j q,B.e.r j=some q→j≠b:=fun j q hq h=>by have:=R.kr j q hq;omega
 have hfz:=fun v v'=>Ib (e:=e) (e':=e') (b:=b) (k:=K) (l:=l) k5 (by rw [k2];exact Nat.le_refl _) hr k9 v v'
 have hfp:=fun v v'=>PO (e:=e) (e':=e') (b:=b) (k:=K) (l:=l) k5 (by rw [k2];exact Nat.le_refl _) hr k9 v v'
 refine ⟨e',k1,⟨by simpa using hl.1,fun i v v' a c=>?_⟩,?_⟩
 ·rw [List.getElem?_map] at a
  obtain ⟨o,a1,a2⟩:=Option.map_eq_some_iff.1 a
  obtain ⟨u,rfl,a3⟩:=Option.map_eq_some_iff.1 a2
  subst a3
  exact hfz u v' (h1 _ (List.mem_of_getElem? a1)) (hl.2 i u v' a1 c)
 ·have gt:∀i x,((s.h.map (fzB b K l)).set b (.b []))[i]? =some x→(i=b∧x= .b [])∨(i≠b∧∃y,s.h[i]? =some y∧x=fzB b K l y∧aa8 b l.length y=true):=fun i x hi=>by
   rw [List.getElem?_set] at hi
   split at hi
   ·rename_i q
    split at hi
    ·cases hi;exact .inl ⟨q.symm,rfl⟩
    ·cases hi
   ·rename_i q
    rw [List.getElem?_map] at hi
    obtain ⟨y,y1,y2⟩:=Option.map_eq_some_iff.1 hi
    exact .inr ⟨fun c=>q c.symm,y,y1,y2.symm,Du h2 y1 (by omega)⟩
  exact {R with
   inj:=fun i j p q hi hj=>R.inj i j p q (hr' i p hi).2 (hr' j q hj).2
   dom:=fun i p hi=>by
    have:=R.dom i p (hr' i p hi).2
    simpa using this
   sep:=fun i p hi=>k8 i p (hr' i p hi).1 (hr' i p hi).2
   g6:=k6
   bz:=fun m x hm=>by
    rcases k7 m x hm with q|q
    ·exact R.bz m x q
    ·exact .inr q
   news:=fun i p hi=>R.news i p (hr' i p hi).2
   bF:=fun i p hi=>hr i p (hk i p hi) (R.bF i p hi)
   bZ:=fun m x hm=>k5 m x (R.bZ m x hm)
   n0:=by rw [k2];exact R.n0
   gj:=fun i ps hi=>by
    rcases gt i _ hi with ⟨rfl,q⟩|⟨hne,y,y1,y2,y3⟩
    ·cases q;exact .inl ⟨rfl,by rw [k4,if_pos rfl]⟩
    ·cases y with
     |g g=>cases y2
     |b Kv=>
      cases y2
      rcases R.gj i Kv y1 with ⟨g1,g2⟩|⟨p,o,g1,g2,c,t,rfl,g3,g4,g5⟩
      ·exact .inl ⟨by rw [oY];exact g1,by rw [k4,if_neg hne];exact g2⟩
      ·exact .inr ⟨p,_,hr i p hne g1,g2,c,t,rfl,g3,by rw [oY];exact g4,by rw [oY];exact hfp Kv _ y3 g5⟩
   gap:=fun i g hi=>by
    rcases gt i _ hi with ⟨_,q⟩|⟨hne,y,y1,y2,y3⟩
    ·cases q
    ·cases y with
     |b Kv=>cases y2
     |g g0=>
      cases y2
      refine ⟨by rw [k4,if_neg hne];exact (R.gap i _ y1).1,(R.gap i _ y1).2.keep (fun _ _ h=>h) (by rw [k3]) fun L hL v v' hv R9=>?_⟩
      subst hL
      have:=List.all_eq_true.1 y3 (some v) hv
      exact VR.mono' (e:=e) (e':=e') k5 (by rw [k2];exact Nat.le_refl _) v v' (fun j p hu hp=>hr j p (fun q=>by subst q;simp [v8,hu] at this) hp) R9
   yi:=by rw [k3];exact R.yi
   yb:=by rw [k3];exact R.yb
   iO:=by have:=R.iO;simpa using this
   iZ:=by rw [k1];exact R.iZ
   kf:=by rw [k1];exact R.kf}
def fzR (b m:Nat) (v:SV) (h:List Blk):Option (SV×List Blk×Bool):=match (St.fz b ⟨[some v],h,true⟩) with
 |some (⟨[some u],h1,_⟩,p)=>match St.gl m ⟨[some u],h1,true⟩ with
  |some ⟨_,h2,_⟩=>some (u,h2,p)
  |none=>none
 |_=>none
theorem ai.fz {P:Program} {f:FuncId} {args:List SV} {h h1 h2:List Blk} {v u:SV} {p:Bool} (b m:Nat) (hb:h.length≤b) (hm:h.length≤m) (g:ai P f args h v h1) (e:fzR b m v h1=some (u,h2,p)) (hp:p=true):ai P f args h u h2:=by
 subst hp
 unfold fzR at e
 split at e
 case h_2=>cases e
 rename_i u' h1' ob p' he
 split at e
 case h_2=>cases e
 rename_i t2 h2' o2 ht
 simp only [Option.some.injEq,Prod.mk.injEq] at e
 obtain ⟨rfl,rfl,rfl⟩:=e
 have e1:=bq.freeze hb he
 have e2:=bq.gl hm ht
 unfold St.gl at ht
 split at ht
 case isFalse=>cases ht
 cases ht
 exact g.post ((e1.trans (bq.same rfl rfl)).trans e2)
end Go.Sy
end
section
namespace Go.Sy
open Go
section
variable {P:Program}
theorem QO.mk {l i:Nat} {L L1 L2:Lp} {vs:List SV} {h:List Blk} {s1 s2:St} {x:Exit} {q:Option Code} (hL:sQ h 0=some (i,L)) (hl:L.l=l) (hps:L.ps.size=vs.length)
  (Sb:Tr P (some l) h.length L.qE ⟨vF L.t L.ps.toList vs,h,true⟩ .normal s1) (MM:o6 s1.h i=some L1) (qu:L1.l=l) (Yz:L1.st= .ready)
  (hbody:Tr P (some l) h.length L.body ⟨s1.t,s1.h.set i (.g (some {L1 with st:=.busy})),true⟩ x s2) (hq:sR x=some q) (Sd:o6 s2.h i=some L2) (mS:L2.l=l) (hlen:s2.h.length=h.length):
  QO P l vs h (.bool q.isNone) (s2.h.set i (.g (some {L2 with st:=if q.isNone then .ready else .done,fB:=q}))):=by
 intro B e w args PS R
 obtain ⟨_,Sa,hst⟩:=qe hL
 rw [Nat.sub_zero] at Sa
 have MM:=mo MM
 have Sd:=mo Sd
 have S0:=R.self
 obtain ⟨_,_,r,hr,hp,ha,hbd,_,_,hTR⟩:=S0.gap i _ Sa
 rw [hl] at hr
 have hargs:(⟨args⟩:Array Value).size=r.params.size:=by rw [hp,hps];exact PS.length
 refine ⟨r.fn,_,r.assign,r.body,run_yield hr hargs,fun ro nn=>?_⟩
 refine roundIn_of_wpIn (F:=wF ro) trivial ?_
 have htm:((r.params.zip ⟨args⟩).foldl (fun tmps (t,a)=>tmps.setIfInBounds t a) r.tmps)=⟨((L.ps.toList.zip args).foldl (fun (tm:Array Value) (q:Tmp×Value)=>tm.setIfInBounds q.1 q.2) ⟨r.tmps.toList⟩).toList⟩:=by
  rw [hp]
  apply Array.ext'
  rw [←Array.foldl_toList]
  simp
 rw [htm,ha,hbd]
 have YA:=nX L.ps.toList vs L.t r.tmps.toList args hTR (PS.mono (oR e h)) (by simpa using hps)
 refine Sb (fP e h w) (e.bare h) w _ [] _ nn (Nat.le_refl _) YA S0 fun e1 w1 t1 YB S1=>?_
 obtain ⟨_,hy1,r1,I4,hp1,ha1,ajv,MO,_,ajw⟩:=S1.gap i _ MM
 rw [qu] at I4
 refine ⟨_,run_beginRound I4 (by rw [MO,Yz]),?_⟩
 have Cn:r1.pending=L1.fB:=by obtain ⟨_,_,r1',MP,_,_,_,_,h9,_⟩:=S1.gap i _ MM;rw [qu,I4] at MP;cases MP;exact h9
 have S1':Rel (fP e h w) e1 (s1.h.set i (.g (some {L1 with st:=.busy}))) (w1.putObj l (.loop {r1 with state:=.busy})):=by
  have:=S1.rq MM (r:=r1) (by rw [qu];exact I4) .busy L1.fB
  rw [←Cn] at this
  rw [qu] at this
  have wk:({L1 with st:=.busy}:Lp)={l:=l,t:=L1.t,ps:=L1.ps,qE:=L1.qE,body:=L1.body,st:=.busy,fB:=r1.pending}:=by rw [Cn, ←qu]
  rw [wk];exact this
 refine hbody (fP e h w) e1 _ t1 [] _ nn (Nat.le_refl _) YB S1' fun e2 w2 t2 ajy S2=>?_
 obtain ⟨_,hy2,r2,I6,_,_,_,_,_,_⟩:=S2.gap i _ Sd
 rw [mS] at I6
 have S3:=S2.rq Sd (r:=r2) (by rw [mS];exact I6) (if q.isNone then .ready else .done) q
 have fin:∃v w4,(Instr.endRound l q).run P w2= .ok v w4∧∃v',Ending.returned v= .returned v'∧∃e',VR e' (.bool q.isNone) v'∧Rel B e' (s2.h.set i (.g (some {L2 with st:=if q.isNone then .ready else .done,fB:=q}))) w4∧b9 e e' none:=by
  refine ⟨_,_,run_endRound q I6,_,rfl,?_⟩
  rw [mS] at S3
  have S3':Rel (fP e h w) e2 (s2.h.set i (.g (some {L2 with st:=if q.isNone then .ready else .done,fB:=q}))) (w2.putObj l (.loop {r2 with state:=if q.isNone then .ready else .done,pending:=q})):=by
   have wk:({L2 with st:=if q.isNone then .ready else .done,fB:=q}:Lp)={l:=l,t:=L2.t,ps:=L2.ps,qE:=L2.qE,body:=L2.body,st:=if q.isNone then .ready else .done,fB:=q}:=by rw [←mS]
   rw [wk];exact S3
  have hh:(s2.h.set i (.g (some {L2 with st:=if q.isNone then .ready else .done,fB:=q}))).length=h.length:=by simp [hlen]
  have key:=qd R S3' (u:=.bool q.isNone) (v':=.bool q.isNone) (j:=h.length) rfl (by rw [hh];simp)
  rw [List.take_of_length_le (by omega),List.drop_of_length_le (by omega),bM] at key
  exact key
 cases x<;>simp only [sR,Option.some.injEq,reduceCtorEq] at hq<;>subst hq<;>exact fin
def bu.UU (Γ:bu) (y:Nat→List SV→List Blk→Option (SV×List Blk×Bool)):bu:={Γ with yc:=y}
theorem bu.KA {Γ:bu} {y:Nat→List SV→List Blk→Option (SV×List Blk×Bool)} (h:ag P Γ) (hy:∀l vs b v b',y l vs b=some (v,b',true)→QO P l vs b v b'):ag P (Γ.UU y) where
 EI:=hy
 calls:=h.calls
 pure:=h.pure
 inl:=h.inl
end
end Go.Sy
end
