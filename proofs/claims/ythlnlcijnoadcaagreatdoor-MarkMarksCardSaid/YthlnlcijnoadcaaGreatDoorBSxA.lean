/- This file proves that a tracked block of integers may be read as one that nobody writes any more. Conditions: nothing but slices leads to it. -/
import Derived.Test.YthlnlcijnoadcaaGreatDoorBMd
set_option linter.all false
namespace Go.Sy
open Go
mutual
def fz (b:Nat) (k:IntKind) (l:List Int):SV→SV
 | .sl b' o i z len cap ex wh=>match Nat.beq b' b with
  |true=>match wh with
   |true=>.ro true k l
   |false=>.ro true k ((l.drop i).take len)
  |false=>.sl b' o i z len cap ex wh
 | .agg ps=>.agg (fzL b k l ps)
 | .tup vs=>.tup (fzL b k l vs)
 | .iface t x=>.iface t (fz b k l x)
 | .fn f u v=>.fn f (fzL b k l u) (fzL b k l v)
 |v=>v
def fzL (b:Nat) (k:IntKind) (l:List Int):List SV→List SV
 | []=>[]
 |x::xs=>fz b k l x::fzL b k l xs
end
mutual
def fzO (b n:Nat):SV→Bool
 | .ptr b' _ _=>!Nat.beq b' b
 | .sl b' o i z len _ _ wh=>match Nat.beq b' b with
  |true=>Nat.beq o 0&&Nat.beq z 1&&(match wh with
   |true=>Nat.beq i 0&&decide (len=n)
   |false=>decide (i+len≤n))
  |false=>true
 | .agg ps=>fzOL b n ps
 | .tup vs=>fzOL b n vs
 | .iface _ x=>fzO b n x
 | .fn _ u v=>andT (fzOL b n u) (fzOL b n v)
 | .rsl b' _ _ _ _=>!Nat.beq b' b
 | .rptr b' _ _ _ _=>!Nat.beq b' b
 | .mpv b'=>!Nat.beq b' b
 |_=>true
def fzOL (b n:Nat):List SV→Bool
 | []=>true
 |x::xs=>andT (fzO b n x) (fzOL b n xs)
end
def fzB (b:Nat) (k:IntKind) (l:List Int):Blk→Blk
 | .b ps=>.b (fzL b k l ps)
 | .g g=>.g g
def fzOB (b n:Nat):Blk→Bool
 | .b ps=>fzOL b n ps
 | .g (some L)=>L.t.all (noUseO b)
 | .g none=>true
def fzOA (b n:Nat):List Blk→Nat→Bool
 | [],_=>true
 |x::xs,i=>andT (match Nat.beq i b with|true=>true|false=>fzOB b n x) (fzOA b n xs (i+1))
theorem fzL_psize (b:Nat) (k:IntKind) (l:List Int):∀ps:List SV,psize (fzL b k l ps)=psize ps
 | []=>rfl
 |x::xs=>by
  have ih:=fzL_psize b k l xs
  have hx:psz (fz b k l x)=psz x:=by
   cases x<;>simp only [fz]<;>try rfl
   split
   ·split<;>rfl
   ·rfl
  simp only [fzL,psize,hx,ih]
theorem fz_notInts (b:Nat) (k:IntKind) (l:List Int) {x:SV} (h:notInts x=true):notInts (fz b k l x)=true:=by
 cases x<;>simp only [fz]<;>try exact h
 split
 ·split<;>rfl
 ·rfl
section
variable {e e':Env} {b:Nat} {k:IntKind} {l:List Int}
mutual
theorem fz_VR (hz:∀n o,e.z n=some o→e'.z n=some o) (hn:e'.n0≤e.n0) (hr:∀j q,j≠b→e.r j=some q→e'.r j=some q)
  (H:∀i len cap ex v' xs,(xs=l∧i=0∧len=l.length∨xs=(l.drop i).take len∧i+len≤l.length)→VR e (.sl b 0 i 1 len cap ex false) v'→RoI e' true k xs v'):
  ∀(v:SV) (v':Value),fzO b l.length v=true→VR e v v'→VR e' (fz b k l v) v'
 | .bool _,_,_,h=>h
 | .int _ _,_,_,h=>h
 | .str _,_,_,h=>h
 | .nl _,_,_,h=>h
 | .ints _ _ _,_,_,h=>h
 | .ptr b' o i,_,g,⟨p,h1,h2⟩=>⟨p,hr b' p (fun q=>by subst q;simp [fzO] at g) h1,h2⟩
 | .sl b' o i z len cap ex wh,v',g,h=>by
  simp only [fz,fzO] at g ⊢
  cases hb:Nat.beq b' b with
  |true=>
   obtain rfl:=Nat.eq_of_beq_eq_true hb
   simp only [hb,Bool.and_eq_true] at g ⊢
   obtain ⟨⟨h1,h2⟩,h3⟩:=g
   obtain rfl:=Nat.eq_of_beq_eq_true h1
   obtain rfl:=Nat.eq_of_beq_eq_true h2
   have h':VR e (.sl b' 0 i 1 len cap ex false) v':=h
   cases wh with
   |true=>
    simp only [Bool.and_eq_true,decide_eq_true_eq] at h3 ⊢
    exact H i len cap ex v' l (.inl ⟨rfl,Nat.eq_of_beq_eq_true h3.1,h3.2⟩) h'
   |false=>
    simp only [decide_eq_true_eq] at h3 ⊢
    exact H i len cap ex v' _ (.inr ⟨rfl,h3⟩) h'
  |false=>
   have hne:b'≠b:=fun q=>by subst q;simp at hb
   show VR e' (.sl b' o i z len cap ex wh) v'
   rcases h with h|⟨p,c,a,h1,h2⟩
   ·exact .inl h
   ·exact .inr ⟨p,c,a,hr b' p hne h1,h2⟩
 | .ro f k xs,v',_,h=>VR.mono' hz hn (.ro f k xs) v' (fun _ _ q=>by cases q) h
 | .rob f xss,v',_,h=>VR.mono' hz hn (.rob f xss) v' (fun _ _ q=>by cases q) h
 | .rol f z len g,v',_,h=>VR.mono' hz hn (.rol f z len g) v' (fun _ _ q=>by cases q) h
 | .rpi k xs i,v',_,h=>VR.mono' hz hn (.rpi k xs i) v' (fun _ _ q=>by cases q) h
 | .rpb f xss i,v',_,h=>VR.mono' hz hn (.rpb f xss i) v' (fun _ _ q=>by cases q) h
 | .rpl f z len g a b c,v',_,h=>VR.mono' hz hn (.rpl f z len g a b c) v' (fun _ _ q=>by cases q) h
 | .agg ps,_,g,⟨ys,h1,h2⟩=>⟨ys,fz_PR hz hn hr H ps ys (by simpa only [fzO] using g) h1,h2⟩
 | .tup vs,_,g,⟨ys,h1,h2⟩=>⟨ys,fz_LR hz hn hr H vs ys (by simpa only [fzO] using g) h1,h2⟩
 | .iface _ x,_,g,⟨y,h1,h2⟩=>⟨y,fz_VR hz hn hr H x y (by simpa only [fzO] using g) h1,h2⟩
 | .fn _ a c,_,g,⟨ys,us,h1,h2,h3⟩=>by
  simp only [fzO,andT_iff] at g
  exact ⟨ys,us,fz_LR hz hn hr H a ys g.1 h1,fz_LR hz hn hr H c us g.2 h2,h3⟩
 | .rows _ _ _,_,_,h=>h
 | .rsl b' _ _ _ _,_,g,h=>by
  rcases h with h|⟨p,c,a,h1,h2⟩
  ·exact .inl h
  ·exact .inr ⟨p,c,a,hr b' p (fun q=>by subst q;simp [fzO] at g) h1,h2⟩
 | .rptr b' _ _ _ _,_,g,⟨p,h1,h2⟩=>⟨p,hr b' p (fun q=>by subst q;simp [fzO] at g) h1,h2⟩
 | .mpv b',_,g,⟨p,h1,h2⟩=>⟨p,hr b' p (fun q=>by subst q;simp [fzO] at g) h1,h2⟩
 | .glb _ _,_,_,h=>h
theorem fz_LR (hz:∀n o,e.z n=some o→e'.z n=some o) (hn:e'.n0≤e.n0) (hr:∀j q,j≠b→e.r j=some q→e'.r j=some q)
  (H:∀i len cap ex v' xs,(xs=l∧i=0∧len=l.length∨xs=(l.drop i).take len∧i+len≤l.length)→VR e (.sl b 0 i 1 len cap ex false) v'→RoI e' true k xs v'):
  ∀(vs:List SV) (ys:List Value),fzOL b l.length vs=true→LR e vs ys→LR e' (fzL b k l vs) ys
 | [],_,_,h=>h
 |x::xs,_,g,⟨y,zs,h1,h2,h3⟩=>by
  simp only [fzOL,andT_iff] at g
  exact ⟨y,zs,fz_VR hz hn hr H x y g.1 h1,fz_LR hz hn hr H xs zs g.2 h2,h3⟩
theorem fz_PR (hz:∀n o,e.z n=some o→e'.z n=some o) (hn:e'.n0≤e.n0) (hr:∀j q,j≠b→e.r j=some q→e'.r j=some q)
  (H:∀i len cap ex v' xs,(xs=l∧i=0∧len=l.length∨xs=(l.drop i).take len∧i+len≤l.length)→VR e (.sl b 0 i 1 len cap ex false) v'→RoI e' true k xs v'):
  ∀(vs:List SV) (ys:List Value),fzOL b l.length vs=true→PR e vs ys→PR e' (fzL b k l vs) ys
 | [],_,_,h=>h
 |x::xs,ys,g,h=>by
  simp only [fzOL,andT_iff] at g
  have ih:=fun zs=>fz_PR hz hn hr H xs zs g.2
  have iv:=fun y=>fz_VR hz hn hr H x y g.1
  by_cases hx:notInts x=true
  ·rw [PR.cons hx] at h
   obtain ⟨y,zs,h1,h2,h3⟩:=h
   rw [fzL,PR.cons (fz_notInts b k l hx)]
   exact ⟨y,zs,iv y h1,ih zs h2,h3⟩
  ·cases x<;>simp [notInts] at hx
   ·obtain ⟨zs,h1,h2⟩:=h
    exact ⟨zs,ih zs h1,h2⟩
   ·obtain ⟨us,zs,h0,h1,h2,h3⟩:=h
    exact ⟨us,zs,h0,fun i hi=>PR.mono (e:=⟨fun _=>none,e.z,e.n0,[],fun _=>none⟩) (e':=⟨fun _=>none,e'.z,e'.n0,[],fun _=>none⟩) ⟨(fun _ _ h=>by cases h),hz,hn⟩ (h1 i hi),ih zs h2,h3⟩
end
end
def St.fz (b:Nat) (s:St):Option (St×Bool):=match s.h[b]? with
 |some (.b [.ints k n l])=>some (⟨s.t.map (fun o=>o.map (Sy.fz b k l)),(s.h.map (fzB b k l)).set b (.b []),s.ob⟩,
   andT (decide (l.length=n)) (andT (s.t.all fun o=>match o with|some v=>fzO b n v|none=>true) (fzOA b n s.h 0)))
 |_=>none
theorem fzOA_get {b n:Nat}:∀{h:List Blk} {j i:Nat} {x:Blk},fzOA b n h j=true→h[i]? =some x→j+i≠b→fzOB b n x=true
 | [],_,_,_,_,h,_=>by simp at h
 |y::h,j,0,x,g,e,hne=>by
  simp only [List.getElem?_cons_zero,Option.some.injEq] at e
  subst e
  simp only [fzOA,andT_iff] at g
  have:=g.1
  cases hq:Nat.beq j b with
  |true=>exact absurd (Nat.eq_of_beq_eq_true hq) hne
  |false=>simpa only [hq] using this
 |y::h,j,i+1,x,g,e,hne=>by
  simp only [fzOA,andT_iff] at g
  exact fzOA_get (j:=j+1) g.2 (by simpa using e) (by omega)
theorem Ent.freeze {k b:Nat} {s s':St} (hb:k≤b) (h:s.fz b=some (s',true)):Ent k s s':=by
 unfold St.fz at h
 split at h
 case h_2=>cases h
 rename_i K n l hblk
 simp only [Option.some.injEq,Prod.mk.injEq,andT_iff,decide_eq_true_eq] at h
 obtain ⟨rfl,rfl,h1,h2⟩:=h
 rw [List.all_eq_true] at h1
 intro B e w t' hB hl R
 have hlt:b<s.h.length:=(List.getElem?_eq_some_iff.1 hblk).1
 have key:∃e':Env,e'.m=e.m∧e'.n0=e.n0∧e'.y=e.y∧(∀j,e'.r j=if j=b then none else e.r j)∧(∀n o,e.z n=some o→e'.z n=some o)∧
   (∀n c t fr,e'.z n=some (c,t,fr)→w.heap[n]? =some (.cells c t fr))∧(∀n x,e'.z n=some x→e.z n=some x∨B.w.heap.size≤n)∧(∀i p,i≠b→e.r i=some p→e'.z p.n=none)∧
   (∀i len cap ex v' xs,(xs=l∧i=0∧len=l.length∨xs=(l.drop i).take len∧i+len≤l.length)→VR e (.sl b 0 i 1 len cap ex false) v'→RoI e' true K xs v'):=by
  have empty:∀(e':Env) (i len:Nat) (a:Option Addr) (xs:List Int),len=0→(xs=l∧i=0∧len=l.length∨xs=(l.drop i).take len∧i+len≤l.length)→RoI e' true K xs (.slice a 0 0):=fun e' i len a xs h0 hx=>by
   refine .inl ⟨?_,a,0,rfl,fun _=>rfl⟩
   rcases hx with ⟨rfl,_,h⟩|⟨rfl,_⟩
   ·exact List.length_eq_zero_iff.1 (by omega)
   ·rw [h0];rfl
  rcases R.blk b _ hblk with ⟨g1,g2⟩|⟨p,o,g1,g2,c,t,rfl,g3,g4,g5⟩
  ·refine ⟨e,rfl,rfl,rfl,fun j=>?_,fun _ _ h=>h,R.zok,fun _ _ h=>.inl h,fun i p _ hi=>R.sep i p hi,fun i len cap ex v' xs hx hv=>?_⟩
   ·split
    ·rename_i q;rw [q,g2]
    ·rfl
   ·rcases hv with ⟨q1,q2,a,rfl⟩|⟨p,_,_,q1,_⟩
    ·exact empty e i len a xs q1 hx
    ·rw [g2] at q1;cases q1
  ·have hpz:e.z p.n=none:=R.sep b p g1
   have hnew:B.w.heap.size≤p.n:=by
    rcases R.news b p g1 with q|q
    ·have:=R.kr b p q;omega
    ·exact q
   refine ⟨{e with r:=fun j=>if j=b then none else e.r j,z:=fun m=>if m=p.n then some (c,t,(0,0)) else e.z m},rfl,rfl,rfl,fun j=>rfl,fun m o hm=>?_,fun m c' t' fr hm=>?_,fun m x hm=>?_,fun i q hi hq=>?_,fun i len cap ex v' xs hx hv=>?_⟩
   ·show (if m=p.n then _ else _)=_
    rw [if_neg (fun q=>by rw [q,hpz] at hm;cases hm)];exact hm
   ·have hm':(if m=p.n then some (c,t,(0,0)) else e.z m)=some (c',t',fr):=hm
    split at hm'
    ·rename_i q;cases hm';rw [q];exact g2
    ·exact R.zok m c' t' fr hm'
   ·have hm':(if m=p.n then some (c,t,(0,0)) else e.z m)=some x:=hm
    split at hm'
    ·rename_i q;right;omega
    ·exact .inl hm'
   ·show (if q.n=p.n then _ else _)=_
    rw [if_neg (fun h=>hi (R.inj i b q p hq g1 h))]
    exact R.sep i q hq
   ·rcases hv with ⟨q1,q2,a,rfl⟩|⟨p',cap',a,q1,rfl,q2,q3,q4,q5,q6⟩
    ·exact empty _ i len a xs q1 hx
    ·rw [g1] at q1;cases q1
     by_cases hc:cap'=0
     ·have h0:len=0:=by omega
      subst hc;subst h0
      exact empty _ i 0 _ xs rfl hx
     ·have ha:=q2 hc
      have hs:=q6 hc
      have hcell:intsV K l=(c.toList.drop p.base).take l.length:=by
       obtain ⟨zs,z1,z2⟩:=g5
       rw [PR] at z1;subst z1
       rw [List.append_nil,lst_eq rfl] at z2
       rw [z2.symm]
       simp [psize,psz]
      have hn:psize [SV.ints K l.length l]=l.length:=by simp [psize,psz]
      rw [hn] at g4
      refine .inr ⟨p.n,a,cap',c,t,(0,0),?_,if_pos rfl,fun _=>?_,?_,?_,?_⟩
      ·congr 1
       rcases hx with ⟨rfl,rfl,h⟩|⟨rfl,h⟩
       ·exact h
       ·rw [List.length_take,List.length_drop];omega
      ·show e.n0≤p.n
       have:=R.n0;have:=R.n0le;omega
      ·rcases hx with ⟨rfl,rfl,hh⟩|⟨rfl,hh⟩
       ·rw [ha,hcell];simp
       ·rw [intsV_take,intsV_drop,hcell,ha,List.drop_take,List.take_take,List.drop_drop,List.length_take,List.length_drop]
        rw [Nat.zero_add,Nat.mul_one]
      ·rcases hx with ⟨rfl,rfl,hh⟩|⟨rfl,hh⟩
       ·omega
       ·rw [List.length_take,List.length_drop];omega
      ·rw [ha];omega
 obtain ⟨e',k1,k2,k3,k4,k5,k6,k7,k8,k9⟩:=key
 have hr:∀j q,j≠b→e.r j=some q→e'.r j=some q:=fun j q hj hq=>by rw [k4,if_neg hj];exact hq
 have hr':∀j q,e'.r j=some q→j≠b∧e.r j=some q:=fun j q hq=>by
  rw [k4] at hq
  split at hq
  ·cases hq
  ·rename_i hj;exact ⟨hj,hq⟩
 have hk:∀j q,B.e.r j=some q→j≠b:=fun j q hq h=>by have:=R.kr j q hq;omega
 have hfz:=fun v v'=>fz_VR (e:=e) (e':=e') (b:=b) (k:=K) (l:=l) k5 (by rw [k2];exact Nat.le_refl _) hr k9 v v'
 have hfp:=fun v v'=>fz_PR (e:=e) (e':=e') (b:=b) (k:=K) (l:=l) k5 (by rw [k2];exact Nat.le_refl _) hr k9 v v'
 refine ⟨e',k1,⟨by simpa using hl.1,fun i v v' a c=>?_⟩,?_⟩
 ·rw [List.getElem?_map] at a
  obtain ⟨o,a1,a2⟩:=Option.map_eq_some_iff.1 a
  obtain ⟨u,rfl,a3⟩:=Option.map_eq_some_iff.1 a2
  subst a3
  exact hfz u v' (h1 _ (List.mem_of_getElem? a1)) (hl.2 i u v' a1 c)
 ·have gt:∀i x,((s.h.map (fzB b K l)).set b (.b []))[i]? =some x→(i=b∧x= .b [])∨(i≠b∧∃y,s.h[i]? =some y∧x=fzB b K l y∧fzOB b l.length y=true):=fun i x hi=>by
   rw [List.getElem?_set] at hi
   split at hi
   ·rename_i q
    split at hi
    ·cases hi;exact .inl ⟨q.symm,rfl⟩
    ·cases hi
   ·rename_i q
    rw [List.getElem?_map] at hi
    obtain ⟨y,y1,y2⟩:=Option.map_eq_some_iff.1 hi
    exact .inr ⟨fun c=>q c.symm,y,y1,y2.symm,fzOA_get h2 y1 (by omega)⟩
  exact {R with
   inj:=fun i j p q hi hj=>R.inj i j p q (hr' i p hi).2 (hr' j q hj).2
   dom:=fun i p hi=>by
    have:=R.dom i p (hr' i p hi).2
    simpa using this
   sep:=fun i p hi=>k8 i p (hr' i p hi).1 (hr' i p hi).2
   zok:=k6
   zfresh:=fun m x hm=>by
    rcases k7 m x hm with q|q
    ·exact R.zfresh m x q
    ·exact .inr q
   glb:=fun g K xs hg=>(R.glb g K xs hg).imp fun c ⟨t,fr,h1,h2⟩=>⟨t,fr,k5 _ _ h1,h2⟩
   news:=fun i p hi=>R.news i p (hr' i p hi).2
   keepr:=fun i p hi=>hr i p (hk i p hi) (R.keepr i p hi)
   keepz:=fun m x hm=>k5 m x (R.keepz m x hm)
   n0:=by rw [k2];exact R.n0
   blk:=fun i ps hi=>by
    rcases gt i _ hi with ⟨rfl,q⟩|⟨hne,y,y1,y2,y3⟩
    ·cases q;exact .inl ⟨rfl,by rw [k4,if_pos rfl]⟩
    ·cases y with
     |g g=>cases y2
     |b ps0=>
      cases y2
      rcases R.blk i ps0 y1 with ⟨g1,g2⟩|⟨p,o,g1,g2,c,t,rfl,g3,g4,g5⟩
      ·exact .inl ⟨by rw [fzL_psize];exact g1,by rw [k4,if_neg hne];exact g2⟩
      ·exact .inr ⟨p,_,hr i p hne g1,g2,c,t,rfl,g3,by rw [fzL_psize];exact g4,by rw [fzL_psize];exact hfp ps0 _ y3 g5⟩
   gap:=fun i g hi=>by
    rcases gt i _ hi with ⟨_,q⟩|⟨hne,y,y1,y2,y3⟩
    ·cases q
    ·cases y with
     |b ps0=>cases y2
     |g g0=>
      cases y2
      refine ⟨by rw [k4,if_neg hne];exact (R.gap i _ y1).1,(R.gap i _ y1).2.keep (fun _ _ h=>h) (by rw [k3]) fun L hL v v' hv hvr=>?_⟩
      subst hL
      have:=List.all_eq_true.1 y3 (some v) hv
      exact VR.mono' (e:=e) (e':=e') k5 (by rw [k2];exact Nat.le_refl _) v v' (fun j p hu hp=>hr j p (fun q=>by subst q;simp [noUseO,hu] at this) hp) hvr
   yi:=by rw [k3];exact R.yi
   yb:=by rw [k3];exact R.yb
   kle:=by have:=R.kle;simpa using this
   mks:=by rw [k1];exact R.mks
   mnd:=by rw [k1];exact R.mnd}
def fzR (b m:Nat) (v:SV) (h:List Blk):Option (SV×List Blk×Bool):=match (St.fz b ⟨[some v],h,true⟩) with
 |some (⟨[some u],h1,_⟩,p)=>match St.trunc m ⟨[some u],h1,true⟩ with
  |some ⟨_,h2,_⟩=>some (u,h2,p)
  |none=>none
 |_=>none
theorem FnTr.fz {P:Program} {f:FuncId} {args:List SV} {h h1 h2:List Blk} {v u:SV} {p:Bool} (b m:Nat) (hb:h.length≤b) (hm:h.length≤m) (g:FnTr P f args h v h1) (e:fzR b m v h1=some (u,h2,p)) (hp:p=true):FnTr P f args h u h2:=by
 subst hp
 unfold fzR at e
 split at e
 case h_2=>cases e
 rename_i u' h1' ob p' he
 split at e
 case h_2=>cases e
 rename_i t2 h2' o2 ht
 simp only [Option.some.injEq,Prod.mk.injEq] at e
 obtain ⟨rfl,rfl,rfl⟩:=e
 have e1:=Ent.freeze hb he
 have e2:=Ent.trunc hm ht
 unfold St.trunc at ht
 split at ht
 case isFalse=>cases ht
 cases ht
 exact g.post ((e1.trans (Ent.same rfl rfl)).trans e2)
end Go.Sy
