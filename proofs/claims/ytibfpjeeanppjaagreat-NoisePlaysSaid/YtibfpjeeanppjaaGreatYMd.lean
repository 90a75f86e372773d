/- This file ties the interpreter's calls to a row's statement: a law called with what came in returns what is reckoned, and writes nothing that was there. Conditions: what came in reads as data. -/
import Derived.Test.YtibfpjeeanppjaaGreatYMc
import Derived.Below
import Derived.WideShapes
set_option linter.all false
namespace Go.Sy
open Go
theorem Rel.start (w:World):Rel ⟨w,jr (jq w) w.heap.size,0,[]⟩ (jr (jq w) w.heap.size) [] w where
 os:=rfl
 tape:=rfl
 output:=rfl
 size:=Nat.le_refl _
 inj:=fun i j p q hi=>by cases hi
 dom:=fun i p hi=>by cases hi
 sep:=fun i p hi=>by cases hi
 g6:=fun n c ty fr hx=>s6 hx
 bz:=fun _ _ hx=>.inl hx
 news:=fun _ _ hi=>.inl hi
 bF:=fun _ _ hi=>hi
 bZ:=fun _ _ hx=>hx
 n0:=rfl
 cW:=Nat.le_refl _
 gj:=fun i ps hi=>by simp at hi
 gap:=fun i g hi=>by simp at hi
 yi:=fun i j n hi=>by cases hi
 yb:=fun i n hi=>by cases hi
 old:=fun _ _ _ _=>rfl
 win:=fun i p hi=>by cases hi
 kr:=fun i p hi=>by cases hi
 iO:=Nat.le_refl _
 iZ:=fun r hr=>by cases hr
 kf:=List.nodup_nil
section
variable {P:Program}
theorem ai.below {f:FuncId} {args:List SV} {args':List Value} {h':List Blk} {b:Bool} (g:ai P f args [] (.bool b) h') {w:World} (hl:LR (jr (jq w) w.heap.size) args args'):
  Calls P f ⟨args'⟩ w fun e w'=>e= .returned (.bool b)∧Go.RowKit.Below w.heap.size w w':=by
 refine (g _ _ w args' (Nat.le_refl _) hl (Rel.start w)).mono ?_
 rintro x w' ⟨v',rfl,e',_,hv,R'⟩
 rw [VR] at hv
 subst hv
 exact ⟨rfl,R'.os,R'.tape,R'.output,R'.size,fun n hn=>R'.old n hn (fun i p hi=>by cases hi) (by simp)⟩
theorem aeC {w:World} {r:Reach} {base:Nat} {t:TypeId} {v:Value} {k:IntKind} {n:Nat} (ha:(P.underlying t).map (fun| .struct _=>true| .array _ _=>true|_=>false)=some true)
  (hc:(P.cellTypes P.depth t).map (fun ts=>ts.all fun u=>isInt P u==some k)=some true) (hn:P.cellsOf t=n) (h:Value.okWide P w r base t v):
  ∃zs:List Int,v= .agg ⟨aP k zs⟩∧zs.length=n∧∀z∈zs,k.has z:=by
 have h':∃cs,v= .agg cs∧cs.size=P.cellsOf t∧Row.okWide P w r base t cs:=by
  unfold Value.okWide at h
  cases hu:P.underlying t with
  |none=>rw [hu] at ha;cases ha
  |some u=>rw [hu] at ha h;cases u<;>first|exact h|(cases ha;done)
 obtain ⟨cs,rfl,hs,ts,hts,_,hall⟩:=h'
 rw [hts] at hc
 simp only [Option.map_some,Option.some.injEq,List.all_eq_true,beq_iff_eq] at hc
 have cell:∀(i:Nat) (v:Value),cs[i]? =some v→∃z:Int,v=Value.int k z∧k.has z:=fun i v hi=>by
  obtain ⟨u,hu,hok⟩:=hall i v hi
  have hk:=hc u (List.mem_of_getElem? hu)
  have hk':P.underlying u=some (.int k):=by
   unfold isInt at hk
   split at hk
   ·rename_i hx;cases hk;exact hx
   ·cases hk
  simp only [Cell.okWide,hk',Cell.ok] at hok
  cases v<;>simp_all
 have hex:∀l:List Value,(∀v∈l,∃z:Int,v=Value.int k z∧k.has z)→∃zs:List Int,l=aP k zs∧∀z∈zs,k.has z:=by
  intro l
  induction l with
  |nil=>intro _;exact ⟨[],rfl,by simp⟩
  |cons a l ih=>
   intro hl
   obtain ⟨z,rfl,hz⟩:=hl a (by simp)
   obtain ⟨zs,rfl,hzs⟩:=ih fun v hv=>hl v (by simp [hv])
   refine ⟨z::zs,rfl,fun y hy=>?_⟩
   rcases List.mem_cons.1 hy with rfl|hy
   ·exact hz
   ·exact hzs y hy
 obtain ⟨zs,hzs,hk⟩:=hex cs.toList fun v hv=>by
  obtain ⟨i,hi⟩:=List.mem_iff_getElem?.1 hv
  exact cell i v (by simpa using hi)
 refine ⟨zs,by rw [←hzs],?_,hk⟩
 have:=congrArg List.length hzs
 rw [az] at this
 simp at this
 omega
theorem Ag {w:World} {a:Addr} {c:Array Value} {t:TypeId} {fr:Nat×Nat} {k:IntKind} {zs:List Int} (hb:w.heap[a.block]? =some (.cells c t fr)) (hs:a.spot=none)
  (hc:∀i,i<zs.length→w.cell? (a.add i)=some (.int k (zs.getD i 0))):aP k zs=(c.toList.drop a.off).take zs.length:=by
 have key:∀i,i<zs.length→c.toList[a.off+i]? =some (.int k (zs.getD i 0)):=fun i hi=>by
  have h:=hc i hi
  unfold World.cell? Addr.add at h
  split at h
  ·rename_i c' t' fr' hb'
   split at hb'
   ·rename_i h0
    subst h0
    rw [hb] at hb'
    cases hb'
    simp only [if_true,hs] at h
    simpa using h
   ·simp only [hb,Option.some.injEq,Obj.cells.injEq] at hb'
    obtain ⟨rfl,rfl,rfl⟩:=hb'
    rename_i GG
    rw [if_neg GG] at h
    simpa using h
  ·cases h
 apply List.ext_getElem?
 intro i
 simp only [aP,List.getElem?_map,List.getElem?_take,List.getElem?_drop]
 by_cases hi:i<zs.length
 ·rw [if_pos hi,key i hi]
  simp [List.getD,List.getElem?_eq_getElem hi]
 ·rw [if_neg hi,List.getElem?_eq_none (by omega)];rfl
theorem x8 {w:World} {r:Reach} {base:Nat} {t e:TypeId} {a:Addr} {len cap:Nat} (ht:P.underlying t=some (.slice e)) (h:Value.okWide P w r base t (.slice (some a) len cap)):
  len≤cap∧a.spot=none∧∃c t' fr,w.heap[a.block]? =some (.cells c t' fr):=by
 simp only [Value.okWide,ht,Cell.okWide,Cell.ok,World.has] at h
 obtain ⟨hl,_,_,hs,row,cells,hsh,_⟩:=h
 refine ⟨hl,hs,?_⟩
 unfold World.shape? at hsh
 split at hsh
 ·rename_i c el fr hb
  exact ⟨c,el,fr,hb⟩
 ·simp at hsh
theorem pz.MY {w:World} {a:Addr} {c:Array Value} {t:TypeId} {fr:Nat×Nat} {k:IntKind} {zs:List Int} {len cap m:Nat} (hb:w.heap[a.block]? =some (.cells c t fr)) (hs:a.spot=none) (hcap:zs.length=cap) (hlen:len≤cap)
  (hc:∀i,i<zs.length→w.cell? (a.add i)=some (.int k (zs.getD i 0))):pz (jr (jq w) m) false k (zs.take len) (.slice (some a) len cap):=by
 have hl:(zs.take len).length=len:=by rw [List.length_take];omega
 by_cases h0:cap=0
 ·exact .inl ⟨List.length_eq_zero_iff.1 (by omega),_,cap,by rw [show len=0 by omega],fun q=>by cases q⟩
 ·obtain ⟨b,o,sp⟩:=a
  simp only at hs
  subst hs
  have hw:=Ag hb rfl hc
  have hsz:o+cap≤c.size:=by
   have:=congrArg List.length hw
   rw [az,List.length_take,List.length_drop] at this
   simp only [Array.length_toList] at this
   omega
  refine .inr ⟨b,o,cap,c,t,fr,by rw [hl],rD hb,(fun q=>by cases q),?_,by omega,hsz⟩
  rw [cI,hw,hl,List.take_take,hcap,Nat.min_eq_left hlen]
end
end Go.Sy
namespace Go.Sy
open Go
mutual
def s9:SV→Bool
 | .ro _ _ _=>false
 | .iN _ _=>false
 | .oJ _ _ _ _=>false
 | .qQ _ _ _=>false
 | .uX _ _ _=>false
 | .o5 _ _ _ _ _ _ _=>false
 | .agg ps=>lC ps
 | .aT vs=>lC vs
 | .iface _ x=>s9 x
 | .fn _ a b=>lC a&&lC b
 |_=>true
def lC:List SV→Bool
 | []=>true
 |x::xs=>s9 x&&lC xs
end
section
variable {e e':Env} {s:Nat→Nat}
mutual
theorem VR.mP:∀{v:SV} {v':Value},s9 v=true→(∀j p,uses j v=true→e.r j=some p→e'.r (s j)=some p)→VR e v v'→VR e' (mL s v) v'
 | .bool _,_,_,_,h=>h
 | .int _ _,_,_,_,h=>h
 | .str _,_,_,_,h=>h
 | .nl _,_,_,_,h=>h
 | .ints _ _ _,_,_,_,h=>h
 | .ptr b _ _,_,_,g,⟨p,h1,h2⟩=>⟨p,g b p (by simp [uses]) h1,h2⟩
 | .sl b _ _ _ _ _ _ _,_,_,g,h=>by
  rcases h with h|⟨p,c,a,h1,h2⟩
  ·exact .inl h
  ·exact .inr ⟨p,c,a,g b p (by simp [uses]) h1,h2⟩
 | .ro _ _ _,_,n,_,_=>by simp [s9] at n
 | .iN _ _,_,n,_,_=>by simp [s9] at n
 | .oJ _ _ _ _,_,n,_,_=>by simp [s9] at n
 | .qQ _ _ _,_,n,_,_=>by simp [s9] at n
 | .uX _ _ _,_,n,_,_=>by simp [s9] at n
 | .o5 _ _ _ _ _ _ _,_,n,_,_=>by simp [s9] at n
 | .agg ps,_,n,g,⟨ys,h1,h2⟩=>⟨ys,PR.mP (by simpa [s9] using n) (fun j p q=>g j p (by simpa [uses] using q)) h1,h2⟩
 | .aT vs,_,n,g,⟨ys,h1,h2⟩=>⟨ys,LR.mP (by simpa [s9] using n) (fun j p q=>g j p (by simpa [uses] using q)) h1,h2⟩
 | .iface _ x,_,n,g,⟨y,h1,h2⟩=>⟨y,VR.mP (v:=x) (by simpa [s9] using n) (fun j p q=>g j p (by simpa [uses] using q)) h1,h2⟩
 | .fn _ a b,_,n,g,⟨ys,us,h1,h2,h3⟩=>by
  simp only [s9,Bool.and_eq_true] at n
  exact ⟨ys,us,LR.mP n.1 (fun j p q=>g j p (by simp [uses,q])) h1,LR.mP n.2 (fun j p q=>g j p (by simp [uses,q])) h2,h3⟩
theorem LR.mP:∀{vs:List SV} {ys:List Value},lC vs=true→(∀j p,c6 j vs=true→e.r j=some p→e'.r (s j)=some p)→LR e vs ys→LR e' (hU s vs) ys
 | [],_,_,_,h=>h
 |x::xs,_,n,g,⟨y,zs,h1,h2,h3⟩=>by
  simp only [lC,Bool.and_eq_true] at n
  exact ⟨y,zs,VR.mP n.1 (fun j p q=>g j p (by simp [c6,q])) h1,LR.mP n.2 (fun j p q=>g j p (by simp [c6,q])) h2,h3⟩
theorem PR.mP:∀{vs:List SV} {ys:List Value},lC vs=true→(∀j p,c6 j vs=true→e.r j=some p→e'.r (s j)=some p)→PR e vs ys→PR e' (hU s vs) ys
 | [],_,_,_,h=>h
 |x::xs,ys,n,g,h=>by
  simp only [lC,Bool.and_eq_true] at n
  have ih:=fun zs=>PR.mP (vs:=xs) (ys:=zs) n.2 (fun j p q=>g j p (by simp [c6,q]))
  have iv:=fun y=>VR.mP (v:=x) (v':=y) n.1 (fun j p q=>g j p (by simp [c6,q]))
  cases x<;>first
   |(obtain ⟨zs,h1,h2⟩:=h;exact ⟨zs,ih zs h1,h2⟩)
   |(obtain ⟨y,zs,h1,h2,h3⟩:=h;exact ⟨y,zs,iv y h1,ih zs h2,h3⟩)
end
end
def o8 (is:List Nat) (h:List Blk):List Blk:=h.zipIdx.map fun (b,i)=>match is.contains i,b with
 |true,.b _=>.b []
 |_,b=>b
mutual
def dJ (is:List Nat) (hg:List Blk):SV→Option (SV×Bool×Bool)
 | .ptr b o i=>if is.contains b then some (.ptr (is.idxOf b) o i,true,false) else none
 | .sl b o i z len cap ex wh=>if is.contains b then some (.sl (is.idxOf b) o i z len cap ex wh,true,false) else bQ hg (.sl b o i z len cap ex wh)
 | .fn f a b=>match nZ is hg a,nZ is hg b with
  |some (x,p,s),some (y,q,t)=>some (.fn f x y,aa p q,s||t)
  |_,_=>none
 | .agg ps=>match nZ is hg ps with
  |some (l,p,t)=>some (.agg l,p,t)
  |none=>none
 | .iface ty x=>match dJ is hg x with
  |some (y,p,t)=>some (.iface ty y,p,t)
  |none=>none
 | .bool b=>bQ hg (.bool b)
 | .int k n=>bQ hg (.int k n)
 | .str s=>bQ hg (.str s)
 | .nl v=>bQ hg (.nl v)
 | .ints k n xs=>bQ hg (.ints k n xs)
 | .ro f k xs=>bQ hg (.ro f k xs)
 | .iN f xss=>bQ hg (.iN f xss)
 | .oJ f z len g=>bQ hg (.oJ f z len g)
 |_=>none
def nZ (is:List Nat) (hg:List Blk):List SV→Option (List SV×Bool×Bool)
 | []=>some ([],true,false)
 |x::xs=>match dJ is hg x,nZ is hg xs with
  |some (y,p,a),some (l,q,b)=>some (y::l,aa p q,a||b)
  |_,_=>none
end
theorem Cs {is:List Nat} {hg:List Blk} {v u:SV} {p t:Bool} (g:dJ is hg v=some (u,p,t)) (hn:aU v=true):aU u=true:=by
 cases v<;>simp only [dJ] at g
 case ptr=>split at g<;>cases g;rfl
 case sl=>
  split at g
  ·cases g;rfl
  ·exact nY g rfl
 case fn=>split at g<;>cases g;rfl
 case agg=>split at g<;>cases g;rfl
 case iface=>split at g<;>cases g;rfl
 case ints=>cases hn
 all_goals first|exact nY g rfl|cases g
def fc (h:List Blk):List Nat→List Blk→List Blk
 |i::is,b::bs=>fc (h.set i b) is bs
 |_,_=>h
def I7 (s:Nat→Nat):Blk→Blk
 | .b ps=>.b (hU s ps)
 | .g _=>.gap
theorem pK:∀{h:List Blk} {is:List Nat} {bs:List Blk},(fc h is bs).length=h.length
 |_,[],_=>by simp [fc]
 |_,_::_,[]=>by simp [fc]
 |h,i::is,b::bs=>by simp only [fc];rw [pK,List.length_set]
theorem oS:∀{h:List Blk} {is:List Nat} {bs:List Blk} {i:Nat},i ∉ is→(fc h is bs)[i]? =h[i]?
 |_,[],_,_,_=>by simp [fc]
 |_,_::_,[],_,_=>by simp [fc]
 |h,a::is,b::bs,i,hi=>by
  simp only [List.mem_cons,not_or] at hi
  simp only [fc]
  rw [oS hi.2,List.getElem?_set_ne (fun q=>hi.1 q.symm)]
theorem wW:∀{h:List Blk} {is:List Nat} {bs:List Blk} {q i:Nat},is.Nodup→is[q]? =some i→i<h.length→q<bs.length→(fc h is bs)[i]? =bs[q]?
 |_,[],_,_,_,_,hq,_,_=>by simp at hq
 |_,_::_,[],_,_,_,_,_,hb=>by simp at hb
 |h,a::is,b::bs,0,i,hn,hq,hl,_=>by
  simp at hq;subst hq
  simp only [fc]
  rw [oS (List.nodup_cons.1 hn).1]
  simp [hl]
 |h,a::is,b::bs,q+1,i,hn,hq,hl,hb=>by
  simp only [fc]
  have:=wW (h:=h.set a b) (is:=is) (bs:=bs) (q:=q) (i:=i) (List.nodup_cons.1 hn).2 (by simpa using hq) (by simpa using hl) (by simpa using hb)
  simpa using this
theorem tZ {is:List Nat} {h:List Blk}:(o8 is h).length=h.length:=by simp [o8]
theorem rE {is:List Nat} {h:List Blk} {i:Nat}:(o8 is h)[i]? =(h[i]?).map fun b=>match is.contains i,b with
  |true,.b _=>.b []
  |_,b=>b:=by
 unfold o8
 rw [List.getElem?_map,List.getElem?_zipIdx]
 cases h[i]? <;>simp
section
variable {P:Program} {B:dL} {e:Env} {h:List Blk} {w:World}
theorem Rel.o8 (R:Rel B e h w) (is:List Nat):Rel B e (o8 is h) w:={R with
 dom:=fun i p hi=>by rw [tZ];exact R.dom i p hi
 gj:=fun i ps hi=>by
  rw [rE] at hi
  cases hq:h[i]? with
  |none=>simp [hq] at hi
  |some b=>
   simp only [hq,Option.map_some,Option.some.injEq] at hi
   cases hc:is.contains i with
   |false=>
    rw [hc] at hi
    simp only at hi
    subst hi
    exact R.gj i ps hq
   |true=>
    rw [hc] at hi
    cases b with
    |g _=>cases hi
    |b qs=>
     simp only [Blk.b.injEq] at hi
     subst hi
     rcases R.gj i qs hq with ⟨g1,g2⟩|⟨p,o,g1,g2,c,t,rfl,g3,g4,g5⟩
     ·exact .inl ⟨rfl,g2⟩
     ·exact .inr ⟨p,_,g1,g2,c,t,rfl,g3,Nat.zero_le _,by simp [aC,PR]⟩
 gap:=fun i g hi=>by
  rw [rE] at hi
  cases hq:h[i]? with
  |none=>simp [hq] at hi
  |some b=>
   cases b with
   |g g'=>
    simp only [hq,Option.map_some,Option.some.injEq] at hi
    have:g'=g:=by cases hc:is.contains i<;>rw [hc] at hi<;>cases hi<;>rfl
    subst this
    exact R.gap i _ hq
   |b ps=>
    simp only [hq,Option.map_some,Option.some.injEq] at hi
    cases hc:is.contains i<;>rw [hc] at hi<;>cases hi
 iO:=by rw [tZ];exact R.iO}
end
def rF (e:Env) (is:List Nat) (z:Nat→Option (Array Value×TypeId×(Nat×Nat))) (n:Nat):Env:=⟨fun q=>(is[q]?).bind e.r,z,n,[],fun _=>none⟩
def EN (e:Env) (is:List Nat) (n:Nat):Bool:=is.any fun i=>match e.r i with
 |some p=>p.n==n
 |none=>false
def EO (e:Env) (w:World) (t:Bool):Nat:=match t with
 |true=>w.heap.size
 |false=>e.n0
def zC (e:Env) (w:World) (is:List Nat) (t:Bool):Nat→Option (Array Value×TypeId×(Nat×Nat)):=fun n=>match t with
 |true=>match EN e is n with
  |true=>none
  |false=>jq w n
 |false=>e.z n
section
variable {P:Program} {B:dL} {e:Env} {h:List Blk} {w:World}
theorem wX {is:List Nat} {n:Nat}:EN e is n=true↔∃i p,i∈is∧e.r i=some p∧p.n=n:=by
 unfold EN
 rw [List.any_eq_true]
 constructor
 ·rintro ⟨i,hi,hq⟩
  cases hp:e.r i with
  |none=>simp [hp] at hq
  |some p=>simp [hp] at hq;exact ⟨i,p,hi,hp,hq⟩
 ·rintro ⟨i,p,hi,hp,hn⟩
  exact ⟨i,hi,by simp [hp,hn]⟩
theorem Ah {is:List Nat} {b:Nat} (hb:is.contains b=true):is[is.idxOf b]? =some b:=by
 have hm:b∈is:=by simpa using hb
 rw [List.getElem?_eq_getElem (List.idxOf_lt_length_of_mem hm)]
 simp
theorem js (R:Rel B e h w) {is:List Nat} {T:Bool} (m:Nat) {v u:SV} {t:Bool} {v':Value} (g:bQ (Sy.o8 is h) v=some (u,true,t)) (ht:t=true→T=true) (hv:VR e v v'):VR (rF e is (zC e w is T) m) u v':=by
 have ja:∀n x,e.z n=some x→zC e w is T n=some x:=fun n x hx=>by
  cases T with
  |false=>exact hx
  |true=>
   have hl:EN e is n=false:=by
    cases hl:EN e is n with
    |false=>rfl
    |true=>
     obtain ⟨i,p,_,hp,rfl⟩:=wX.1 hl
     rw [R.sep i p hp] at hx;cases hx
   simp only [zC,hl]
   obtain ⟨c,ty,fr⟩:=x
   exact rD (R.g6 n c ty fr hx)
 have:=mq (R.o8 is) (zz:=zC e w is T) ja (T:=T) (fun hT i p c ty hne hp hc=>by
  subst hT
  have hl:EN e is p.n=false:=by
   cases hl:EN e is p.n with
   |false=>rfl
   |true=>
    exfalso
    obtain ⟨i',p',hi',GF,hn⟩:=wX.1 hl
    have:=R.inj i' i p' p GF hp hn
    subst this
    have R7:=R.dom i' p hp
    refine hne ?_
    rw [rE,List.getElem?_eq_getElem R7,Option.map_some,show is.contains i'=true by simpa using hi']
    cases hb:h[i'] with
    |b ps=>rfl
    |g _=>
     have:=(R.gap i' _ (by rw [List.getElem?_eq_getElem R7,hb])).1
     rw [hp] at this;cases this
  show zC e w is true p.n=_
  simp only [zC,hl]
  exact rD hc) m g ht hv
 exact VR.mono (e:=jr (zC e w is T) m) (e':=rF e is (zC e w is T) m) ⟨(fun _ _ h=>by cases h),fun _ _ h=>h,Nat.le_refl _⟩ this
theorem MZ {is:List Nat} {z:Nat→Option (Array Value×TypeId×(Nat×Nat))} {m:Nat}:∀b p,is.contains b=true→e.r b=some p→(rF e is z m).r (is.idxOf b)=some p:=fun b p hb hp=>by
 show (is[is.idxOf b]?).bind e.r=some p
 rw [Ah hb];exact hp
mutual
theorem qg (R:Rel B e h w) {is:List Nat} {T:Bool} (m:Nat):∀{v u:SV} {t:Bool} {v':Value},dJ is (o8 is h) v=some (u,true,t)→(t=true→T=true)→VR e v v'→VR (rF e is (zC e w is T) m) u v'
 | .ptr b o i,u,t,v',g,ht,hv=>by
  simp only [dJ] at g
  split at g
  ·rename_i hb
   cases g
   obtain ⟨p,h1,h2⟩:=hv
   exact ⟨p,MZ b p hb h1,h2⟩
  ·cases g
 | .sl b o i z len cap ex wh,u,t,v',g,ht,hv=>by
  simp only [dJ] at g
  split at g
  ·rename_i hb
   cases g
   rcases hv with hv|⟨p,c,a,h1,h2⟩
   ·exact .inl hv
   ·exact .inr ⟨p,c,a,MZ b p hb h1,h2⟩
  ·exact js R m g ht hv
 | .fn f a b,u,t,v',g,ht,hv=>by
  simp only [dJ] at g
  split at g
  ·rename_i x p s y q t' ha hb
   simp only [Option.some.injEq,Prod.mk.injEq,av] at g
   obtain ⟨rfl,⟨rfl,rfl⟩,rfl⟩:=g
   obtain ⟨ys,us,h1,h2,rfl⟩:=hv
   exact ⟨ys,us,mw R m ha (fun h=>ht (by rw [h];rfl)) h1,mw R m hb (fun h=>ht (by rw [h];exact Bool.or_true _)) h2,rfl⟩
  ·cases g
 | .agg ps,u,t,v',g,ht,hv=>by
  simp only [dJ] at g
  split at g
  ·rename_i l p t' hl
   simp only [Option.some.injEq,Prod.mk.injEq] at g
   obtain ⟨rfl,rfl,rfl⟩:=g
   obtain ⟨ys,h1,rfl⟩:=hv
   exact ⟨ys,qh R m hl ht h1,rfl⟩
  ·cases g
 | .iface ty x,u,t,v',g,ht,hv=>by
  simp only [dJ] at g
  split at g
  ·rename_i y p t' hl
   simp only [Option.some.injEq,Prod.mk.injEq] at g
   obtain ⟨rfl,rfl,rfl⟩:=g
   obtain ⟨y',h1,rfl⟩:=hv
   exact ⟨y',qg R m hl ht h1,rfl⟩
  ·cases g
 | .bool b,u,t,v',g,ht,hv=>by simp only [dJ] at g;exact js R m g ht hv
 | .int k n,u,t,v',g,ht,hv=>by simp only [dJ] at g;exact js R m g ht hv
 | .str k,u,t,v',g,ht,hv=>by simp only [dJ] at g;exact js R m g ht hv
 | .nl k,u,t,v',g,ht,hv=>by simp only [dJ] at g;exact js R m g ht hv
 | .ints k n xs,u,t,v',g,ht,hv=>by simp only [dJ] at g;exact js R m g ht hv
 | .ro f k xs,u,t,v',g,ht,hv=>by simp only [dJ] at g;exact js R m g ht hv
 | .iN f xs,u,t,v',g,ht,hv=>by simp only [dJ] at g;exact js R m g ht hv
 | .oJ f z len gg,u,t,v',g,ht,hv=>by simp only [dJ] at g;exact js R m g ht hv
 | .qQ _ _ _,u,t,v',g,_,_=>by simp [dJ] at g
 | .uX _ _ _,u,t,v',g,_,_=>by simp [dJ] at g
 | .o5 _ _ _ _ _ _ _,u,t,v',g,_,_=>by simp [dJ] at g
 | .aT _,u,t,v',g,_,_=>by simp [dJ] at g
theorem mw (R:Rel B e h w) {is:List Nat} {T:Bool} (m:Nat):∀{vs us:List SV} {t:Bool} {ys:List Value},nZ is (o8 is h) vs=some (us,true,t)→(t=true→T=true)→LR e vs ys→LR (rF e is (zC e w is T) m) us ys
 | [],us,t,ys,g,_,hv=>by simp only [nZ,Option.some.injEq,Prod.mk.injEq] at g;obtain ⟨rfl,_⟩:=g;exact hv
 |x::xs,us,t,ys,g,ht,hv=>by
  simp only [nZ] at g
  split at g
  ·rename_i y p a l q b hx hl
   simp only [Option.some.injEq,Prod.mk.injEq,av] at g
   obtain ⟨rfl,⟨rfl,rfl⟩,rfl⟩:=g
   obtain ⟨y',zs,h1,h2,rfl⟩:=hv
   exact ⟨y',zs,qg R m hx (fun h=>ht (by rw [h];rfl)) h1,mw R m hl (fun h=>ht (by rw [h];exact Bool.or_true _)) h2,rfl⟩
  ·cases g
theorem qh (R:Rel B e h w) {is:List Nat} {T:Bool} (m:Nat):∀{vs us:List SV} {t:Bool} {ys:List Value},nZ is (o8 is h) vs=some (us,true,t)→(t=true→T=true)→PR e vs ys→PR (rF e is (zC e w is T) m) us ys
 | [],us,t,ys,g,_,hv=>by simp only [nZ,Option.some.injEq,Prod.mk.injEq] at g;obtain ⟨rfl,_⟩:=g;exact hv
 |x::xs,us,t,ys,g,ht,hv=>by
  simp only [nZ] at g
  split at g
  ·rename_i y p a l q b hx hl
   simp only [Option.some.injEq,Prod.mk.injEq,av] at g
   obtain ⟨rfl,⟨rfl,rfl⟩,rfl⟩:=g
   have ha:a=true→T=true:=fun h=>ht (by rw [h];rfl)
   have hb:b=true→T=true:=fun h=>ht (by rw [h];exact Bool.or_true _)
   by_cases hn:aU x=true
   ·obtain ⟨y',zs,h1,h2,rfl⟩:=(PR.cons hn).1 hv
    exact (PR.cons (Cs hx hn)).2 ⟨y',zs,qg R m hx ha h1,qh R m hl hb h2,rfl⟩
   ·cases x<;>simp [aU] at hn
    simp only [dJ,bQ,Option.some.injEq,Prod.mk.injEq] at hx
    obtain ⟨rfl,_⟩:=hx
    obtain ⟨zs,h2,rfl⟩:=hv
    exact ⟨zs,qh R m hl hb h2,rfl⟩
  ·cases g
end
def jb (is:List Nat) (j:Nat) (q:Nat):Nat:=match is[q]? with
 |some i=>i
 |none=>j+(q-is.length)
theorem I8 (R:Rel B e h w) {is:List Nat} {l:List (List SV)} (x5:is.Nodup) (hl:mO h is=some l) (Ct:∀ps∈l,ei is ps=true) {t:Bool} (M0:t=true→∀ps∈l,lC ps=true):
  Rel ⟨w,rF e is (zC e w is t) (EO e w t),is.length,[]⟩ (rF e is (zC e w is t) (EO e w t)) (l.map fun ps=>.b (hU (fun b=>is.idxOf b) ps)) w:=by
 obtain ⟨hlen,wQ⟩:=lB hl
 have hr:∀q p,(rF e is (zC e w is t) (EO e w t)).r q=some p→∃i,is[q]? =some i∧e.r i=some p:=fun q p hq=>Option.bind_eq_some_iff.1 hq
 have hen:e.n0≤w.heap.size:=by have:=R.n0;have:=R.cW;have:=R.size;omega
 exact {
  os:=rfl,tape:=rfl,output:=rfl,size:=Nat.le_refl _
  inj:=fun i j p q hi hj hpq=>by
   obtain ⟨a,h1,h2⟩:=hr i p hi
   obtain ⟨b,h3,h4⟩:=hr j q hj
   have:=R.inj a b p q h2 h4 hpq
   subst this
   exact (List.getElem?_inj (List.getElem?_eq_some_iff.1 h1).1 x5).1 (h1.trans h3.symm)
  dom:=fun i p hi=>by
   obtain ⟨a,h1,_⟩:=hr i p hi
   have:=(List.getElem?_eq_some_iff.1 h1).1
   simpa [hlen] using this
  sep:=fun i p hi=>by
   obtain ⟨a,h1,h2⟩:=hr i p hi
   show zC e w is t p.n=none
   cases t with
   |false=>exact R.sep a p h2
   |true=>simp only [zC,wX.2 ⟨a,p,List.mem_of_getElem? h1,h2,rfl⟩]
  g6:=fun n c ty fr hx=>by
   have hx':zC e w is t n=some (c,ty,fr):=hx
   cases t with
   |false=>exact R.g6 n c ty fr hx'
   |true=>
    simp only [zC] at hx'
    split at hx'
    ·cases hx'
    ·exact s6 hx'
  bz:=fun _ _ hx=>.inl hx,news:=fun _ _ hi=>.inl hi,bF:=fun _ _ hi=>hi,bZ:=fun _ _ hx=>hx,n0:=rfl
  cW:=by show EO e w t≤w.heap.size;cases t<;>simp [EO,hen]
  gj:=fun q ps hq=>by
   rw [List.getElem?_map] at hq
   obtain ⟨Kv,h1,h2⟩:=Option.map_eq_some_iff.1 hq
   cases h2
   have hqi:q<is.length:=by have:=(List.getElem?_eq_some_iff.1 h1).1;omega
   obtain ⟨ps1,h3,h4⟩:=wQ q _ (List.getElem?_eq_getElem hqi)
   rw [h1] at h3;cases h3
   have Ad:(rF e is (zC e w is t) (EO e w t)).r q=e.r is[q]:=by
    show (is[q]?).bind e.r=_;rw [List.getElem?_eq_getElem hqi];rfl
   have hmem:=List.mem_of_getElem? h1
   rcases R.gj _ Kv h4 with ⟨g1,g2⟩|⟨p,o,g1,g2,c,ty,rfl,g3,g4,g5⟩
   ·exact .inl ⟨by rw [cK];exact g1,by rw [Ad];exact g2⟩
   ·refine .inr ⟨p,_,by rw [Ad];exact g1,g2,c,ty,rfl,g3,by rw [cK];exact g4,?_⟩
    rw [cK]
    have up:∀b p,c6 b Kv=true→e.r b=some p→(rF e is (zC e w is t) (EO e w t)).r (is.idxOf b)=some p:=fun b p hu hp=>by
     show (is[is.idxOf b]?).bind e.r=some p
     rw [Ah (by simpa using dA (Ct Kv hmem) hu)];exact hp
    cases t with
    |false=>exact PR.mL (e:=e) (e':=rF e is (zC e w is false) (EO e w false)) (fun _ _ h=>h) (Nat.le_refl _) Kv _ up g5
    |true=>exact PR.mP (e:=e) (e':=rF e is (zC e w is true) (EO e w true)) (M0 rfl Kv hmem) up g5
  gap:=fun q g hq=>by
   rw [List.getElem?_map] at hq
   obtain ⟨_,_,h2⟩:=Option.map_eq_some_iff.1 hq
   cases h2
  yi:=(fun i j n hi=>by cases hi),yb:=(fun i n hi=>by cases hi)
  old:=fun _ _ _ _=>rfl
  win:=fun i p hi=>by
   obtain ⟨a,h1,h2⟩:=hr i p hi
   obtain ⟨c,ty,h1,_⟩:=R.fm h2
   exact ⟨_,_,h1,h1,c,c,ty,(0,0),rfl,rfl,rfl,fun _ _=>rfl⟩
  kr:=fun i p hi=>by
   obtain ⟨a,h1,_⟩:=hr i p hi
   exact (List.getElem?_eq_some_iff.1 h1).1
  iO:=by simp [hlen]
  iZ:=fun r hr=>by cases hr
  kf:=List.nodup_nil}
theorem Cu {is:List Nat} {j q i:Nat} (h:is[q]? =some i):jb is j q=i:=by unfold jb;rw [h]
theorem M1 {is:List Nat} {j q:Nat} (h:is.length≤q):jb is j q=j+(q-is.length):=by unfold jb;rw [List.getElem?_eq_none h]
end
end Go.Sy
namespace Go.Sy
open Go
def od (is:List Nat) (j:Nat) (h h1:List Blk):List Blk:=fc h is ((h1.take is.length).map (I7 (jb is j)))
def gE (is:List Nat) (j:Nat) (h1:List Blk):List Blk:=(h1.drop is.length).map (I7 (jb is j))
section
variable {P:Program}
theorem Cv {f:FuncId} {us:List SV} {v:SV} {is:List Nat} {l:List (List SV)} {h1:List Blk} (g:ai P f us (l.map fun ps=>.b (hU (fun b=>is.idxOf b) ps)) v h1) {h:List Blk} {vs:List SV} {t:Bool}
  (x5:is.Nodup) (hl:mO h is=some l) (Ct:∀ps∈l,ei is ps=true) (M0:t=true→∀ps∈l,lC ps=true) (habs:nZ is (o8 is h) vs=some (us,true,t))
  (hst:t=true→fJ v=false∧∀b∈h1,iW b=false)
  {B:dL} {e:Env} {w:World} {args:List Value} {j:Nat} (hla:LR e vs args) (R:Rel B e h w) (hj:ld h j (h1.length-is.length)):
  Calls P f ⟨args⟩ w fun en w'=>∃v',en= .returned v'∧∃e2,VR e2 (mL (jb is j) v) v'∧Rel B e2 (b6 (od is j h h1) j (gE is j h1)) w'∧b9 e e2 none:=by
 obtain ⟨hlen,wQ⟩:=lB hl
 have hal:=mw R (EO e w t) habs id hla
 have R0:=I8 R x5 hl Ct M0
 refine (g _ _ w args (by simp [hlen]) hal R0).mono ?_
 rintro en w' ⟨v',rfl,e',_,hv,S⟩
 have hlt:∀{q i:Nat},is[q]? =some i→i<h.length:=fun {q i} hq=>by
  obtain ⟨ps,_,h4⟩:=wQ q i hq
  exact (List.getElem?_eq_some_iff.1 h4).1
 have aoG:is.length≤h1.length:=S.iO
 have r0:∀q,(rF e is (zC e w is t) (EO e w t)).r q=(is[q]?).bind e.r:=fun _=>rfl
 -- the aeD places
 have Co:∀q p,e'.r q=some p→(∃i,is[q]? =some i∧e.r i=some p)∨w.heap.size≤p.n:=fun q p hq=>by
  rcases S.news q p hq with h|h
  ·exact .inl (Option.bind_eq_some_iff.1 h)
  ·exact .inr h
 have aeE:∀{q i p},is[q]? =some i→e.r i=some p→e'.r q=some p:=fun {q i p} hq hp=>S.bF q p (by show (is[q]?).bind e.r=some p;rw [hq];exact hp)
 have s7:∀n,n<w.heap.size→(∀i p,i∈is→e.r i=some p→p.n≠n)→w'.heap[n]? =w.heap[n]? :=fun n hn hno=>S.old n hn (fun q p hq=>by
  obtain ⟨i,h1,h2⟩:=Option.bind_eq_some_iff.1 (show (is[q]?).bind e.r=some p from hq)
  exact hno i p (List.mem_of_getElem? h1) h2) (by simp)
 have GR:∀{q i p p'},e'.r q=some p→e.r i=some p'→i ∉ is→p.n≠p'.n:=fun {q i p p'} hq hi hni heq=>by
  rcases Co q p hq with ⟨a,h1,h2⟩|h
  ·have:=R.inj a i p p' h2 hi heq
   subst this
   exact hni (List.mem_of_getElem? h1)
  ·have:=R.lt hi;omega
 have hen:e.n0≤w.heap.size:=by have:=R.n0;have:=R.cW;have:=R.size;omega
 have hn0:e'.n0=EO e w t:=S.n0
 have hnn:e.n0≤EO e w t:=by cases t<;>simp [EO,hen]
 let nn:=h1.length-is.length
 let z2:Nat→Option (Array Value×TypeId×(Nat×Nat)):=fun n=>if n<w.heap.size then e.z n else e'.z n
 let r2:Nat→Option Pl:=fun i=>if is.contains i=true then e'.r (is.idxOf i) else if j≤i∧i<j+nn then e'.r (is.length+(i-j)) else e.r i
 let e2:Env:=⟨r2,z2,e.n0,e.m,e.y⟩
 have idx:∀{q i},is[q]? =some i→is.contains i=true∧is.idxOf i=q:=fun {q i} hq=>by
  have hm:=List.mem_of_getElem? hq
  refine ⟨by simpa using hm,?_⟩
  have h1:=List.idxOf_lt_length_of_mem hm
  have h2:is[is.idxOf i]? =some i:=by rw [List.getElem?_eq_getElem h1];simp
  exact (List.getElem?_inj h1 x5).1 (h2.trans hq.symm)
 have M3:∀i,j≤i∧i<j+nn→is.contains i=true→False:=fun i hi hc=>by
  have hm:i∈is:=by simpa using hc
  obtain ⟨q,hq⟩:=List.mem_iff_getElem?.1 hm
  obtain ⟨ps,_,h4⟩:=wQ q i hq
  rcases hj with rfl|hg
  ·have:=hlt hq;omega
  ·have:=hg (i-j) (by show i-j<h1.length-is.length;omega)
   rw [show j+(i-j)=i by omega,h4] at this;cases this
 have Se:∀{q i},is[q]? =some i→r2 i=e'.r q:=fun {q i} hq=>by
  obtain ⟨h1,h2⟩:=idx hq
  show (if is.contains i=true then e'.r (is.idxOf i) else _)=_
  rw [if_pos h1,h2]
 have M4:∀{i},j≤i∧i<j+nn→r2 i=e'.r (is.length+(i-j)):=fun {i} hi=>by
  show (if is.contains i=true then e'.r (is.idxOf i) else _)=_
  rw [if_neg (fun hc=>M3 i hi hc),if_pos hi]
 have GS:∀{i},is.contains i≠true→¬(j≤i∧i<j+nn)→r2 i=e.r i:=fun {i} h1 h2=>by
  show (if is.contains i=true then e'.r (is.idxOf i) else _)=_
  rw [if_neg h1,if_neg h2]
 have YE:∀{i p},e.r i=some p→¬(j≤i∧i<j+nn):=fun {i p} hp hi=>by
  rcases hj with rfl|hg
  ·have:=R.dom i p hp;omega
  ·have:=(R.gap i _ (by have:=hg (i-j) (by show i-j<h1.length-is.length;omega);rwa [show j+(i-j)=i by omega] at this)).1
   rw [hp] at this;cases this
 -- what a place is
 have wY:∀i p,r2 i=some p→(∃q,is[q]? =some i∧e'.r q=some p)∨((j≤i∧i<j+nn)∧e'.r (is.length+(i-j))=some p)∨(i ∉ is∧¬(j≤i∧i<j+nn)∧e.r i=some p):=fun i p hp=>by
  by_cases hc:is.contains i=true
  ·obtain ⟨q,hq⟩:=List.mem_iff_getElem?.1 (show i∈is by simpa using hc)
   rw [Se hq] at hp
   exact .inl ⟨q,hq,hp⟩
  ·by_cases hn:j≤i∧i<j+nn
   ·rw [M4 hn] at hp;exact .inr (.inl ⟨hn,hp⟩)
   ·rw [GS hc hn] at hp;exact .inr (.inr ⟨by simpa using hc,hn,hp⟩)
 have up:∀i p,e.r i=some p→r2 i=some p:=fun i p hp=>by
  by_cases hc:is.contains i=true
  ·obtain ⟨q,hq⟩:=List.mem_iff_getElem?.1 (show i∈is by simpa using hc)
   rw [Se hq];exact aeE hq hp
  ·rw [GS hc (YE hp)];exact hp
 have back:∀q p,e'.r q=some p→e2.r (jb is j q)=some p:=fun q p hq=>by
  rcases Nat.lt_or_ge q is.length with hlq|hlq
  ·have hi:is[q]? =some is[q]:=List.getElem?_eq_getElem hlq
   rw [Cu hi]
   show r2 is[q]=some p
   rw [Se hi];exact hq
  ·rw [M1 hlq]
   have hd:=S.dom q p hq
   show r2 (j+(q-is.length))=some p
   rw [M4 ⟨by omega,by show _<j+(h1.length-is.length);omega⟩,show is.length+(j+(q-is.length)-j)=q by omega]
   exact hq
 have hle:Env.Le e e2:=⟨fun i p hp=>up i p hp,fun n x hx=>by
  show (if n<w.heap.size then e.z n else e'.z n)=some x
  rw [if_pos (R.P1 hx)];exact hx,Nat.le_refl _⟩
 let e1:Env:={e' with z:=z2}
 have zt:t=true→∀n x,e'.n0≤n→e'.z n=some x→z2 n=some x:=fun ht n x hn hx=>by
  show (if n<w.heap.size then e.z n else e'.z n)=some x
  rw [if_neg (by rw [hn0,ht] at hn;simp only [EO] at hn;omega)];exact hx
 have zf:t=false→∀n x,e'.z n=some x→z2 n=some x:=fun ht n x hx=>by
  show (if n<w.heap.size then e.z n else e'.z n)=some x
  by_cases hn:n<w.heap.size
  ·rw [if_pos hn]
   rcases S.bz n x hx with q|q
   ·have q':zC e w is t n=some x:=q
    rw [ht] at q';exact q'
   ·exact absurd q (by show ¬w.heap.size≤n;omega)
  ·rw [if_neg hn];exact hx
 have MT:∀{u:SV} {u':Value},(t=true→fJ u=false)→VR e' u u'→VR e1 u u':=fun {u u'} hs hu=>by
  by_cases ht:t=true
  ·exact VR.fresh (e:=e') (e':=e1) rfl (zt ht) (Nat.le_refl _) (hs ht) hu
  ·exact VR.mono' (e:=e') (e':=e1) (zf (by simpa using ht)) (Nat.le_refl _) u u' (fun _ _ _ h=>h) hu
 have MU:∀{u:List SV} {u':List Value},(t=true→iV u=false)→PR e' u u'→PR e1 u u':=fun {u u'} hs hu=>by
  by_cases ht:t=true
  ·exact PR.fresh (e:=e') (e':=e1) rfl (zt ht) (Nat.le_refl _) (hs ht) hu
  ·exact PR.mono' (e:=e') (e':=e1) (zf (by simpa using ht)) (Nat.le_refl _) u u' (fun _ _ _ h=>h) hu
 have Cr:e2.n0≤e1.n0:=by show e.n0≤e'.n0;omega
 refine ⟨v',rfl,e2,VR.mL (e:=e1) (e':=e2) (fun _ _ h=>h) Cr v v' (fun q p _ hp=>back q p hp) (MT (fun ht=>(hst ht).1) hv),?_,b9.of_le hle rfl _⟩
 have hbl:(od is j h h1).length=h.length:=pK
 have qt:(gE is j h1).length=nn:=by simp [gE,nn]
 have Vp:ld (od is j h h1) j (gE is j h1).length:=by
  rw [qt]
  rcases hj with hj|hg
  ·exact .inl (by rw [hbl];exact hj)
  ·refine .inr fun i hi=>?_
   unfold od
   rw [oS (fun hm=>M3 (j+i) ⟨by omega,by omega⟩ (by simpa using hm))]
   exact hg i hi
 -- what a block is
 have Vz:∀(q i:Nat),(is[q]? =some i∨(is.length≤q∧(j≤i∧i<j+nn)∧q=is.length+(i-j)))→e2.r i=e'.r q∧(∀qs,h1[q]? =some (.b qs)→(aC (hU (jb is j) qs)=0∧e2.r i=none)∨∃p o,e2.r i=some p∧w'.heap[p.n]? =some o∧BR e2 p (hU (jb is j) qs) o)∧(∀g,h1[q]? =some (.g g)→e2.r i=none):=fun q i hqi=>by
  have Ad:e2.r i=e'.r q:=by
   rcases hqi with hq|⟨_,hq,rfl⟩
   ·exact Se hq
   ·exact M4 hq
  refine ⟨Ad,fun qs hq=>?_,fun g hq=>by rw [Ad];exact (S.gap q g hq).1⟩
  rcases S.gj q qs hq with ⟨g1,g2⟩|⟨p,o,g1,g2,c,ty,rfl,g3,g4,g5⟩
  ·exact .inl ⟨by rw [cK];exact g1,by rw [Ad];exact g2⟩
  ·refine .inr ⟨p,_,by rw [Ad];exact g1,g2,c,ty,rfl,g3,by rw [cK];exact g4,?_⟩
   rw [cK]
   exact PR.mL (e:=e1) (e':=e2) (fun _ _ h=>h) Cr qs _ (fun b p _ hp=>back b p hp) (MU (fun ht=>(hst ht).2 _ (List.mem_of_getElem? hq)) g5)
 have aeG:∀(i:Nat) (b:Blk),(b6 (od is j h h1) j (gE is j h1))[i]? =some b→(∃q c,(is[q]? =some i∨(is.length≤q∧(j≤i∧i<j+nn)∧q=is.length+(i-j)))∧h1[q]? =some c∧b=I7 (jb is j) c)∨(i ∉ is∧¬(j≤i∧i<j+nn)∧h[i]? =some b):=fun i b hi=>by
  rw [mu Vp,qt] at hi
  split at hi
  ·rename_i hc
   simp only [gE,List.getElem?_map,List.getElem?_drop] at hi
   obtain ⟨c,h2,h3⟩:=Option.map_eq_some_iff.1 hi
   exact .inl ⟨is.length+(i-j),c,.inr ⟨by omega,hc,rfl⟩,h2,h3.symm⟩
  ·rename_i hc
   by_cases hm:i∈is
   ·obtain ⟨q,hq⟩:=List.mem_iff_getElem?.1 hm
    have hql:=(List.getElem?_eq_some_iff.1 hq).1
    unfold od at hi
    rw [wW x5 hq (hlt hq) (by simp;omega),List.getElem?_map,List.getElem?_take_of_lt hql] at hi
    obtain ⟨c,h2,h3⟩:=Option.map_eq_some_iff.1 hi
    exact .inl ⟨q,c,.inl hq,h2,h3.symm⟩
   ·unfold od at hi
    rw [oS hm] at hi
    exact .inr ⟨hm,hc,hi⟩
 exact {
  os:=S.os.trans R.os,tape:=S.tape.trans R.tape,output:=S.output.trans R.output,size:=Nat.le_trans R.size S.size
  inj:=fun i i' p q hi hi' hpq=>by
   rcases wY i p hi with ⟨a,h2,h3⟩|⟨h2,h3⟩|⟨h2,h4,h3⟩<;>rcases wY i' q hi' with ⟨b,g2,g3⟩|⟨g2,g3⟩|⟨g2,g4,g3⟩
   ·have:=S.inj _ _ p q h3 g3 hpq
    subst this
    rw [h2] at g2;cases g2;rfl
   ·have:=S.inj _ _ p q h3 g3 hpq
    have:=(List.getElem?_eq_some_iff.1 h2).1
    omega
   ·exact absurd hpq (GR h3 g3 g2)
   ·have:=S.inj _ _ p q h3 g3 hpq
    have:=(List.getElem?_eq_some_iff.1 g2).1
    omega
   ·have:=S.inj _ _ p q h3 g3 hpq
    omega
   ·exact absurd hpq (GR h3 g3 g2)
   ·exact absurd hpq.symm (GR g3 h3 h2)
   ·exact absurd hpq.symm (GR g3 h3 h2)
   ·exact R.inj _ _ p q h3 g3 hpq
  dom:=fun i p hi=>by
   rcases wY i p hi with ⟨a,h2,h3⟩|⟨h2,h3⟩|⟨h2,h4,h3⟩
   ·exact Nat.lt_of_lt_of_le (by rw [hbl];exact hlt h2) fK
   ·have:=yI Vp (i:=i-j) (by rw [qt];omega)
    rwa [show j+(i-j)=i by omega] at this
   ·exact Nat.lt_of_lt_of_le (by rw [hbl];exact R.dom i p h3) fK
  sep:=fun i p hi=>by
   have key:∀q,e'.r q=some p→z2 p.n=none:=fun q hq=>by
    show (if p.n<w.heap.size then e.z p.n else e'.z p.n)=none
    split
    ·rename_i hlp
     rcases Co q p hq with ⟨a,_,h2⟩|h
     ·exact R.sep a p h2
     ·omega
    ·exact S.sep q p hq
   rcases wY i p hi with ⟨a,h2,h3⟩|⟨h2,h3⟩|⟨h2,h4,h3⟩
   ·exact key _ h3
   ·exact key _ h3
   ·show (if p.n<w.heap.size then e.z p.n else e'.z p.n)=none
    rw [if_pos (R.lt h3)];exact R.sep i p h3
  g6:=fun n c ty fr hx=>by
   have hx':(if n<w.heap.size then e.z n else e'.z n)=some (c,ty,fr):=hx
   split at hx'
   ·rename_i hn
    rw [s7 n hn (fun i p hi hp M5=>by subst M5;rw [R.sep i p hp] at hx';cases hx')]
    exact R.g6 n c ty fr hx'
   ·exact S.g6 n c ty fr hx'
  bz:=fun n x hx=>by
   have hx':(if n<w.heap.size then e.z n else e'.z n)=some x:=hx
   split at hx'
   ·exact R.bz n x hx'
   ·exact .inr (by have:=R.size;omega)
  news:=fun i p hi=>by
   have key:∀q,e'.r q=some p→(∀a,is[q]? =some a→a=i)→B.e.r i=some p∨B.w.heap.size≤p.n:=fun q hq ha=>by
    rcases Co q p hq with ⟨a,h1,h2⟩|h
    ·have:=ha a h1;subst this;exact R.news _ p h2
    ·exact .inr (Nat.le_trans R.size h)
   rcases wY i p hi with ⟨a,h2,h3⟩|⟨h2,h3⟩|⟨h2,h4,h3⟩
   ·exact key a h3 fun b hb=>by rw [h2] at hb;cases hb;rfl
   ·exact key _ h3 fun b hb=>by have:=(List.getElem?_eq_some_iff.1 hb).1;omega
   ·exact R.news i p h3
  bF:=fun i p hi=>up i p (R.bF i p hi)
  bZ:=fun n x hx=>hle.z n x (R.bZ n x hx)
  n0:=R.n0,cW:=R.cW
  gj:=fun i ps hi=>by
   rcases aeG i _ hi with ⟨q,c,hq,hc,hb⟩|⟨hni,YF,hb⟩
   ·cases c with
    |g _=>cases hb
    |b qs=>
     simp only [I7,Blk.b.injEq] at hb
     subst hb
     exact (Vz q i hq).2.1 qs hc
   ·have Ad:e2.r i=e.r i:=GS (by simpa using hni) YF
    rcases R.gj i ps hb with ⟨g1,g2⟩|⟨p,o,g1,g2,g3⟩
    ·exact .inl ⟨g1,by rw [Ad];exact g2⟩
    ·refine .inr ⟨p,o,by rw [Ad];exact g1,?_,g3.mono hle⟩
     rw [s7 p.n (R.lt g1) (fun a p' ha GF M5=>hni (by have:=R.inj a i p' p GF g1 M5;subst this;exact ha))]
     exact g2
  gap:=fun i g hi=>by
   rcases aeG i _ hi with ⟨q,c,hq,hc,hb⟩|⟨hni,YF,hb⟩
   ·cases c with
    |b qs=>cases hb
    |g g'=>
     simp only [I7,Blk.g.injEq] at hb
     subst hb
     exact ⟨(Vz q i hq).2.2 _ hc,trivial⟩
   ·refine ⟨?_,(R.gap i g hb).2.le (fun n o hn=>?_) rfl hle⟩
    ·show r2 i=none
     rw [GS (by simpa using hni) YF];exact (R.gap i g hb).1
    ·rw [s7 n (Array.getElem?_eq_some_iff.1 hn).1 (fun i p _ hp M5=>by
      subst M5
      obtain ⟨c,ty,hc,_⟩:=R.fm hp
      rw [hc] at hn;cases hn)]
     exact hn
  yi:=R.yi,yb:=R.yb
  old:=fun n hn hno qt=>by
   rw [s7 n (by have:=R.size;omega) (fun i p hi hp M5=>by
    rcases R.news i p hp with q|q
    ·exact hno i p q M5
    ·omega)]
   exact R.old n hn hno qt
  win:=fun i p hi=>by
   obtain ⟨o,o',g1,g2,g3⟩:=R.win i p hi
   have hp:=R.bF i p hi
   by_cases hm:i∈is
   ·obtain ⟨q,hq⟩:=List.mem_iff_getElem?.1 hm
    obtain ⟨x,x',k1,k2,k3⟩:=S.win q p (by show (is[q]?).bind e.r=some p;rw [hq];exact hp)
    have k1':w.heap[p.n]? =some x:=k1
    rw [g2] at k1';cases k1'
    exact ⟨o,x',g1,k2,g3.trans k3⟩
   ·exact ⟨o,o',g1,by rw [s7 p.n (R.lt hp) (fun a p' ha GF M5=>hm (by have:=R.inj a i p' p GF hp M5;subst this;exact ha))];exact g2,g3⟩
  kr:=R.kr
  iO:=by have:=R.iO;have:=fK (h:=od is j h h1) (j:=j) (new:=gE is j h1);omega
  iZ:=fun r hr=>by
   have hm:=R.iZ r hr
   rw [s7 r (Array.getElem?_eq_some_iff.1 hm.1).1 (fun i p _ hp M5=>by
    subst M5
    obtain ⟨c,ty,hc,_⟩:=R.fm hp
    have h9:=hm.1
    rw [hc] at h9;cases h9)]
   exact hm
  kf:=R.kf}
def Entry.mut (f:FuncId) (fn:Func) (hf:P.funcs[f]? =some fn) (hn:(fn.name != "runtime.NumGoroutine")=true) (hb:fn.body.isSome=true) (pick:List SV→List Blk→List Nat) (nb:Nat) (F:List SV→List Blk→Option (SV×List Blk×Bool))
  (ok:∀us h0 v h1,F us h0=some (v,h1,true)→ai P f us h0 v h1):Entry P where
 f:=f
 g:=fun vs h j=>match mO h (pick vs h),nZ (pick vs h) (o8 (pick vs h) h) vs with
  |some l,some (us,p,t)=>match decide (pick vs h).Nodup&&l.all (ei (pick vs h))&&(!t||l.all lC) with
   |true=>match F us (l.map fun ps=>.b (hU (fun b=>(pick vs h).idxOf b) ps)) with
    |some (v,h1,q)=>match t&&(fJ v||h1.any iW) with
     |true=>none
     |false=>some (mL (jb (pick vs h) j) v,od (pick vs h) j h h1,gE (pick vs h) j h1,aa p q)
    |none=>none
   |false=>none
  |_,_=>none
 pf:=2
 nb:=nb
 ok:=by
  intro vs h j v h' new g B e w args hla R hj
  generalize hpk:pick vs h=is at g
  split at g
  ·rename_i l us p t hl habs
   split at g
   ·rename_i hc
    simp only [Bool.and_eq_true,decide_eq_true_eq,List.all_eq_true] at hc
    obtain ⟨⟨x5,Ct⟩,M0⟩:=hc
    split at g
    ·rename_i u h1 q hF
     split at g
     ·cases g
     ·rename_i hs
      simp only [Option.some.injEq,Prod.mk.injEq,av] at g
      obtain ⟨rfl,rfl,rfl,rfl,rfl⟩:=g
      have P3:fn.body≠none:=fun q=>by rw [q] at hb;cases hb
      refine .inr ⟨eZ hf (by simpa using hn) P3 _ w,?_⟩
      refine Cv (ok us _ u h1 hF) x5 hl Ct (fun ht ps hps=>?_) habs (fun ht=>?_) hla R (by simpa [gE] using hj)
      ·rw [ht] at M0
       simp only [Bool.not_true,Bool.false_or,List.all_eq_true] at M0
       exact M0 ps hps
      ·rw [ht,Bool.true_and,Bool.or_eq_false_iff] at hs
       refine ⟨hs.1,fun b hb=>?_⟩
       cases hq:iW b with
       |false=>rfl
       |true=>
        have:h1.any iW=true:=List.any_eq_true.2 ⟨b,hb,hq⟩
        rw [this] at hs;cases hs.2
    ·cases g
   ·cases g
  ·cases g
 pu:=⟨(fun h=>by cases h),(fun h=>by cases h)⟩
theorem Cw {is:List Nat} {j:Nat}:∀{b:Nat},is.contains b=true→jb is j (is.idxOf b)=b:=fun hb=>Cu (Ah hb)
mutual
theorem yL {is:List Nat} {j:Nat}:∀{v:SV},de is v=true→mL (jb is j) (mL (fun b=>is.idxOf b) v)=v
 | .ptr b o i,h=>by simp only [de] at h;simp only [mL,Cw h]
 | .sl b o i z len cap ex wh,h=>by simp only [de] at h;simp only [mL,Cw h]
 | .agg ps,h=>by simp only [de] at h;simp only [mL,ig h]
 | .aT ps,h=>by simp only [de] at h;simp only [mL,ig h]
 | .iface t x,h=>by simp only [de] at h;simp only [mL,yL h]
 | .fn f a b,h=>by simp only [de,Bool.and_eq_true] at h;simp only [mL,ig h.1,ig h.2]
 | .bool _,_=>rfl
 | .int _ _,_=>rfl
 | .str _,_=>rfl
 | .nl _,_=>rfl
 | .ints _ _ _,_=>rfl
 | .ro _ _ _,_=>rfl
 | .iN _ _,_=>rfl
 | .oJ _ _ _ _,_=>rfl
 | .qQ _ _ _,_=>rfl
 | .uX _ _ _,_=>rfl
 | .o5 _ _ _ _ _ _ _,_=>rfl
theorem ig {is:List Nat} {j:Nat}:∀{vs:List SV},ei is vs=true→hU (jb is j) (hU (fun b=>is.idxOf b) vs)=vs
 | [],_=>rfl
 |x::xs,h=>by
  simp only [ei,Bool.and_eq_true] at h
  simp only [hU,yL h.1,ig h.2]
end
theorem uc:∀{h:List Blk} {is:List Nat} {bs:List Blk},(∀(q i:Nat),is[q]? =some i→bs[q]? =h[i]?)→is.Nodup→fc h is bs=h
 |_,[],_,_,_=>by simp [fc]
 |_,_::_,[],_,_=>by simp [fc]
 |h,a::is,b::bs,hq,hn=>by
  simp only [fc]
  have h0:h[a]? =some b:=(hq 0 a rfl).symm
  have hs:h.set a b=h:=by
   apply List.ext_getElem?
   intro x
   by_cases hx:a=x
   ·subst hx;rw [List.getElem?_set_self (List.getElem?_eq_some_iff.1 h0).1,h0]
   ·rw [List.getElem?_set_ne hx]
  rw [hs]
  exact uc (fun q i hi=>by simpa using hq (q+1) i (by simpa using hi)) (List.nodup_cons.1 hn).2
theorem Sf {is:List Nat} {h h2:List Blk} (hle:I1 h h2):I1 (o8 is h) (o8 is h2):=fun i ps hi=>by
 rw [rE] at hi ⊢
 cases hb:h[i]? with
 |none=>rw [hb] at hi;simp at hi
 |some b=>
  rw [hb] at hi
  cases b with
  |g o=>cases hc:is.contains i<;>rw [hc] at hi<;>simp at hi
  |b qs=>rw [hle i qs hb];exact hi
mutual
theorem GU {is:List Nat} {h h2:List Blk} (hle:I1 h h2):∀{v:SV} {q:SV×Bool×Bool},dJ is h v=some q→dJ is h2 v=some q
 | .ptr _ _ _,q,g=>by simp only [dJ] at g ⊢;exact g
 | .sl b o i z len cap ex wh,q,g=>by
  simp only [dJ] at g ⊢
  split
  ·rename_i hc;rw [if_pos hc] at g;exact g
  ·rename_i hc;rw [if_neg hc] at g;exact gB hle g
 | .fn f a b,q,g=>by
  simp only [dJ] at g ⊢
  split at g
  ·rename_i x p s y q' t ha hb;rw [rG hle ha,rG hle hb];exact g
  ·cases g
 | .agg ps,q,g=>by
  simp only [dJ] at g ⊢
  split at g
  ·rename_i l p t hl;rw [rG hle hl];exact g
  ·cases g
 | .iface ty x,q,g=>by
  simp only [dJ] at g ⊢
  split at g
  ·rename_i y p t hl;rw [GU hle hl];exact g
  ·cases g
 | .bool _,q,g=>by simp only [dJ] at g ⊢;exact gB hle g
 | .int _ _,q,g=>by simp only [dJ] at g ⊢;exact gB hle g
 | .str _,q,g=>by simp only [dJ] at g ⊢;exact gB hle g
 | .nl _,q,g=>by simp only [dJ] at g ⊢;exact gB hle g
 | .ints _ _ _,q,g=>by simp only [dJ] at g ⊢;exact gB hle g
 | .ro _ _ _,q,g=>by simp only [dJ] at g ⊢;exact gB hle g
 | .iN _ _,q,g=>by simp only [dJ] at g ⊢;exact gB hle g
 | .oJ _ _ _ _,q,g=>by simp only [dJ] at g ⊢;exact gB hle g
 | .qQ _ _ _,q,g=>by simp [dJ] at g
 | .uX _ _ _,q,g=>by simp [dJ] at g
 | .o5 _ _ _ _ _ _ _,q,g=>by simp [dJ] at g
 | .aT _,q,g=>by simp [dJ] at g
theorem rG {is:List Nat} {h h2:List Blk} (hle:I1 h h2):∀{v:List SV} {q:List SV×Bool×Bool},nZ is h v=some q→nZ is h2 v=some q
 | [],q,g=>by simp only [nZ] at g ⊢;exact g
 |x::xs,q,g=>by
  simp only [nZ] at g ⊢
  split at g
  ·rename_i y p a l q' b hx hl
   rw [GU hle hx,rG hle hl];exact g
  ·cases g
end
theorem Cx {h h2:List Blk} (hle:I1 h h2):∀{is:List Nat} {l:List (List SV)},mO h is=some l→mO h2 is=some l
 | [],l,g=>g
 |i::is,l,g=>by
  simp only [mO] at g ⊢
  split at g
  ·rename_i ps l' h1 h2'
   rw [hle i ps h1,Cx hle h2'];exact g
  ·cases g
def Entry.Qo (f:FuncId) (fn:Func) (hf:P.funcs[f]? =some fn) (hn:(fn.name != "runtime.NumGoroutine")=true) (hb:fn.body.isSome=true) (pick:List SV→List Nat) (F:List SV→List Blk→Option (SV×Bool))
  (ok:∀us h0 v,F us h0=some (v,true)→ai P f us h0 v h0):Entry P where
 f:=f
 g:=fun vs h j=>match mO h (pick vs),nZ (pick vs) (o8 (pick vs) h) vs with
  |some l,some (us,p,t)=>match decide (pick vs).Nodup&&l.all (ei (pick vs))&&(!t||l.all lC) with
   |true=>match F us (l.map fun ps=>.b (hU (fun b=>(pick vs).idxOf b) ps)) with
    |some (v,q)=>match t&&(fJ v||(l.map fun ps=>Blk.b (hU (fun b=>(pick vs).idxOf b) ps)).any iW) with
     |true=>none
     |false=>some (mL (jb (pick vs) j) v,h,[],aa p q)
    |none=>none
   |false=>none
  |_,_=>none
 pf:=1
 nb:=0
 ok:=by
  intro vs h j v h' new g B e w args hla R hj
  generalize hpk:pick vs=is at g
  split at g
  ·rename_i l us p t hl habs
   split at g
   ·rename_i hc
    simp only [Bool.and_eq_true,decide_eq_true_eq,List.all_eq_true] at hc
    obtain ⟨⟨x5,Ct⟩,M0⟩:=hc
    split at g
    ·rename_i u q hF
     split at g
     ·cases g
     ·rename_i hs
      simp only [Option.some.injEq,Prod.mk.injEq,av] at g
      obtain ⟨rfl,rfl,rfl,rfl,rfl⟩:=g
      have P3:fn.body≠none:=fun q=>by rw [q] at hb;cases hb
      obtain ⟨hlen,wQ⟩:=lB hl
      refine .inr ⟨eZ hf (by simpa using hn) P3 _ w,?_⟩
      have hnw:gE is j (l.map fun ps=>.b (hU (fun b=>is.idxOf b) ps))=[]:=by
       unfold gE
       rw [List.drop_eq_nil_of_le (by simp [hlen])];rfl
      have hbk:od is j h (l.map fun ps=>.b (hU (fun b=>is.idxOf b) ps))=h:=by
       unfold od
       refine uc (fun q i hi=>?_) x5
       obtain ⟨ps,h1,h2⟩:=wQ q i hi
       have hq:q<is.length:=(List.getElem?_eq_some_iff.1 hi).1
       rw [List.getElem?_map,List.getElem?_take_of_lt hq,List.getElem?_map,h1,h2]
       simp only [Option.map_some,I7,Option.some.injEq,Blk.b.injEq]
       exact ig (Ct ps (List.mem_of_getElem? h1))
      refine (Cv (j:=j) (ok us _ u hF) x5 hl Ct (fun ht ps hps=>?_) habs (fun ht=>?_) hla R ?_).mono ?_
      ·rw [ht] at M0
       simp only [Bool.not_true,Bool.false_or,List.all_eq_true] at M0
       exact M0 ps hps
      ·rw [ht,Bool.true_and,Bool.or_eq_false_iff] at hs
       refine ⟨hs.1,fun b hb=>?_⟩
       cases hq:iW b with
       |false=>rfl
       |true=>
        have:(l.map fun ps=>Blk.b (hU (fun b=>is.idxOf b) ps)).any iW=true:=List.any_eq_true.2 ⟨b,hb,hq⟩
        rw [this] at hs;cases hs.2
      ·simpa [hlen] using hj
      ·rintro en w' ⟨v',rfl,e2,h1,h2,h3⟩
       rw [hbk,hnw] at h2
       exact ⟨v',rfl,e2,h1,h2,h3⟩
    ·cases g
   ·cases g
  ·cases g
 pu:=by
  refine ⟨(fun h=>by cases h),fun _ vs h j v h' new p g=>?_⟩
  split at g
  ·rename_i l us p1 t hl habs
   split at g
   ·rename_i hc
    split at g
    ·rename_i u q hF
     split at g
     ·cases g
     ·rename_i hs
      simp only [Option.some.injEq,Prod.mk.injEq] at g
      obtain ⟨rfl,rfl,rfl,rfl⟩:=g
      refine ⟨rfl,fun h2 hle=>?_⟩
      rw [Cx hle hl,rG (Sf hle) habs]
      simp only
      rw [hc];simp only;rw [hF];simp only;rw [hs]
    ·cases g
   ·cases g
  ·cases g
end
end Go.Sy
namespace Go.Sy
open Go
theorem PE.aH (k:IntKind) (n:Nat) (l:List Int):PE [.ints k n l] [.ints k n (aH n l)]:=⟨rfl,fun e xs ⟨zs,h1,h2⟩=>⟨zs,h1,by rw [h2,L3]⟩⟩
theorem VE.agg {ps qs:List SV} (h:PE ps qs):VE (.agg ps) (.agg qs):=fun e _ ⟨ys,h1,h2⟩=>⟨ys,h.2 e ys h1,h2⟩
theorem VE.refl (v:SV):VE v v:=fun _ _ h=>h
theorem PE.refl (ps:List SV):PE ps ps:=⟨rfl,fun _ _ h=>h⟩
def VEL:List SV→List SV→Prop
 | [],[]=>True
 |x::xs,y::ys=>VE x y∧VEL xs ys
 |_,_=>False
theorem VEL.get:∀{xs ys:List SV},VEL xs ys→xs.length=ys.length∧∀(i:Nat) (y:SV),ys[i]? =some y→∃x,xs[i]? =some x∧VE x y
 | [],[],_=>⟨rfl,fun i y h=>by simp at h⟩
 | [],_::_,h=>h.elim
 |_::_,[],h=>h.elim
 |x::xs,y::ys,⟨h1,h2⟩=>by
  obtain ⟨h3,h4⟩:=VEL.get h2
  refine ⟨by simp [h3],fun i z hi=>?_⟩
  cases i with
  |zero=>simp at hi;subst hi;exact ⟨x,rfl,h1⟩
  |succ i=>simp at hi;obtain ⟨u,h5,h6⟩:=h4 i z hi;exact ⟨u,by simpa using h5,h6⟩
def GV:List Blk→List Blk→Prop
 | [],[]=>True
 | .b ps::xs,.b qs::ys=>PE ps qs∧GV xs ys
 | .g a::xs,.g b::ys=>a=b∧GV xs ys
 |_,_=>False
theorem GV.get:∀{xs ys:List Blk},GV xs ys→xs.length=ys.length∧(∀(i:Nat) (qs:List SV),ys[i]? =some (.b qs)→∃ps,xs[i]? =some (.b ps)∧PE ps qs)∧(∀(i:Nat) (g:Option Lp),ys[i]? =some (.g g)→xs[i]? =some (.g g))
 | [],[],_=>⟨rfl,(fun i y h=>by simp at h),fun i g h=>by simp at h⟩
 | .b ps::xs,.b qs::ys,⟨h1,h2⟩=>by
  obtain ⟨h3,h4,h5⟩:=GV.get h2
  refine ⟨by simp [h3],fun i z hi=>?_,fun i g hi=>?_⟩
  ·cases i with
   |zero=>simp at hi;subst hi;exact ⟨ps,rfl,h1⟩
   |succ i=>simp at hi;obtain ⟨u,h5,h6⟩:=h4 i z hi;exact ⟨u,by simpa using h5,h6⟩
  ·cases i with
   |zero=>simp at hi
   |succ i=>simp at hi;simpa using h5 i g hi
 | .g a::xs,.g b::ys,⟨h1,h2⟩=>by
  subst h1
  obtain ⟨h3,h4,h5⟩:=GV.get (xs:=xs) (ys:=ys) h2
  refine ⟨by simp [h3],fun i z hi=>?_,fun i g hi=>?_⟩
  ·cases i with
   |zero=>simp at hi
   |succ i=>simp at hi;obtain ⟨u,h5,h6⟩:=h4 i z hi;exact ⟨u,by simpa using h5,h6⟩
  ·cases i with
   |zero=>simp at hi ⊢;exact hi
   |succ i=>simp at hi;simpa using h5 i g hi
 | [],_::_,h=>by simp [GV] at h
 |_::_,[],h=>by simp [GV] at h
 | .b _::_,.g _::_,h=>by simp [GV] at h
 | .g _::_,.b _::_,h=>by simp [GV] at h
theorem bq.acI {k:Nat} {t:List (Option SV)} {h h':List Blk} {o o':Bool} (g:GV h h'):bq k ⟨t,h,o⟩ ⟨t,h',o'⟩:=by
 obtain ⟨h1,h2,h3⟩:=g.get
 exact bq.mono rfl (fun i v' hi=>⟨v',hi,VE.refl _⟩) h1.symm h2 h3
theorem bq.all {k:Nat} {as bs:List SV} {h h':List Blk} {o o':Bool} (ga:VEL as bs) (g:GV h h'):bq k ⟨as.map some,h,o⟩ ⟨bs.map some,h',o'⟩:=by
 obtain ⟨h1,h2,h3⟩:=g.get
 obtain ⟨g1,g2⟩:=ga.get
 refine bq.mono (by simp [g1]) (fun i v' hi=>?_) h1.symm h2 h3
 rw [List.getElem?_map] at hi
 obtain ⟨y,hy,q⟩:=Option.map_eq_some_iff.1 hi
 cases q
 obtain ⟨x,hx,hv⟩:=g2 i v' hy
 exact ⟨x,by simp [hx],hv⟩
section
variable {P:Program}
theorem aF {Γ:bu} (hΓ:ag P Γ) (n:Nat) {f:FuncId} {fn:Func} (hf:P.funcs[f]? =some fn) {args:List SV} {v:SV} {p:Bool} (e:(br P Γ n fn args []).map (fun x=>(x.1,x.2.2))=some (v,p)) (hp:p=true) (hr:de [] v=true):ai P f args [] v []:=by
 obtain ⟨⟨u,h1,q⟩,he,e⟩:=Option.map_eq_some_iff.1 e
 simp only [Prod.mk.injEq] at e
 obtain ⟨rfl,rfl⟩:=e
 subst hp
 have key:∀u:SV,mL (fun b=>([]:List Nat).idxOf b) u=u∨True:=fun _=>.inr trivial
 refine (ai.dw hΓ hf he).post (bq.trans (bq.gl (n:=0) (s':=⟨[some u],[],true⟩) (Nat.le_refl _) ?_) (bq.refl _ _))
 unfold St.gl
 rw [if_pos]
 ·rfl
 ·simp only [List.range_zero,List.all_cons,List.all_nil,Bool.and_true,List.take_zero,hr]
theorem aQ {Γ:bu} (hΓ:ag P Γ) (n:Nat) {f:FuncId} {fn:Func} (hf:P.funcs[f]? =some fn) {args:List SV} {h h1:List Blk} {v:SV} {p:Bool} (m:Nat) (hm:h.length≤m)
  (e:(br P Γ n fn args h).map (fun x=>(x.1,x.2.1.take m,x.2.2))=some (v,h1,p)) (hp:p=true) (hr:de (List.range m) v=true) (hb:h1.all (MX m)=true):ai P f args h v h1:=by
 obtain ⟨⟨u,h2,q⟩,he,e⟩:=Option.map_eq_some_iff.1 e
 simp only [Prod.mk.injEq] at e
 obtain ⟨rfl,rfl,rfl⟩:=e
 subst hp
 refine (ai.dw hΓ hf he).post (bq.gl (n:=m) hm ?_)
 unfold St.gl
 rw [if_pos]
 simp only [List.all_cons,List.all_nil,Bool.and_true,hr,hb]
theorem ai.conv {f:FuncId} {as bs:List SV} {h h2 h1 h3:List Blk} {v u:SV} (g:ai P f bs h2 v h1) (ga:VEL as bs) (gh:GV h h2) (gv:VE v u) (gh':GV h1 h3):ai P f as h u h3:=by
 have hlen:=gh.get.1
 refine (ai.pre g hlen (bq.all ga gh)).post ?_
 exact bq.all (as:=[v]) (bs:=[u]) ⟨gv,trivial⟩ gh'
theorem ai.cu {Γ:bu} (hΓ:ag P Γ) (n m j:Nat) {f:FuncId} {fn:Func} (hf:P.funcs[f]? =some fn) {args:List SV} {h h':List Blk} {s:St} {v:SV} {p:Bool} (hj:h.length≤j) (hb:fn.body.isSome=true)
  (ht:∀s' x,bf P none h.length ((atoms (aE fn)).drop m) s x s'→bf P none h.length (atoms (aE fn)) ⟨aO fn.ntmps args,h,true⟩ x s')
  (e:((o9 P Γ n h.length ((atoms (aE fn)).drop m) s).bind fun r=>match r.1 with
   | .ret| .normal=>(kJ P r.2.t r.2.h fn.results.toList).map fun q=>(oneOf q.1,r.2.h.take j,aa r.2.ob q.2)
   |_=>none)=some (v,h',p)) (hp:p=true) (hr:de (List.range j) v=true) (hbl:h'.all (MX j)=true):ai P f args h v h':=by
 obtain ⟨⟨x,s'⟩,h1,e⟩:=Option.bind_eq_some_iff.1 e
 subst hp
 have key:∀(_:x= .ret∨x= .normal),((kJ P s'.t s'.h fn.results.toList).map fun q=>(oneOf q.1,s'.h.take j,aa s'.ob q.2))=some (v,h',true)→ai P f args h v h':=fun hx e=>by
  obtain ⟨⟨vs,q⟩,hres,e⟩:=Option.map_eq_some_iff.1 e
  simp only [Prod.mk.injEq,av] at e
  obtain ⟨rfl,rfl,fL,rfl⟩:=e
  refine (ai.mk hf hb (ht s' x (bf.rest hΓ n h1 fL)) hx hres).post (bq.gl (n:=j) hj ?_)
  unfold St.gl
  rw [if_pos]
  simp only [List.all_cons,List.all_nil,Bool.and_true,hr,hbl]
 cases x<;>simp only at e<;>first|exact key (by simp) e|cases e
end
end Go.Sy
namespace Go.Sy
open Go
section
variable {P:Program} {B:dL} {e:Env} {h:List Blk} {w:World}
def Env.enter (e:Env) (h:List Blk) (n:Nat):Env:={e with m:=n::e.m,y:=fun i=>if i=h.length then some (n+1) else match o6 h i with|some _=>e.y i|none=>none}
theorem wZ (e:Env) (h:List Blk) (n:Nat):Env.Le e (e.enter h n):=⟨fun _ _ h=>h,fun _ _ h=>h,Nat.le_refl _⟩
theorem Sg {i n:Nat} {L:Lp} (g:h[i]? =some (.g (some L))):(e.enter h n).y i=e.y i:=by
 show (if i=h.length then some (n+1) else match o6 h i with|some _=>e.y i|none=>none)=e.y i
 rw [if_neg (by have:=(List.getElem?_eq_some_iff.1 g).1;omega),GQ g]
theorem w5 (R:Rel B e h w) {i n m:Nat} (g:(e.enter h n).y i=some m):(i=h.length∧m=n+1)∨(i<h.length∧e.y i=some m∧m<w.heap.size):=by
 have g':(if i=h.length then some (n+1) else match o6 h i with|some _=>e.y i|none=>none)=some m:=g
 split at g'
 ·rename_i hi;cases g';exact .inl ⟨hi,rfl⟩
 ·split at g'
  ·rename_i L hL
   have hL:=mo hL
   obtain ⟨_,h1,r,h2,_⟩:=R.gap i _ hL
   rw [g'] at h1;cases h1
   exact .inr ⟨(List.getElem?_eq_some_iff.1 hL).1,g',(Array.getElem?_eq_some_iff.1 h2).1⟩
  ·cases g'
theorem Rel.enter (R:Rel B e h w) {t:List (Option SV)} {t':List Value} (hl:TR e t t') (fn:FuncId) (ps:Array Tmp) (qE body:Code):
  Rel B (e.enter h w.heap.size) (h++[.g (some ⟨w.heap.size+1,t,ps,qE,body,.ready,none⟩)]) ((w.alloc (.deferred (some []))).alloc (.loop {state:=.ready,pending:=none,fn,tmps:=⟨t'⟩,params:=ps,assign:=qE,body,defers:=w.heap.size})):=by
 generalize BP:Obj.loop {state:=.ready,pending:=none,fn,tmps:=⟨t'⟩,params:=ps,assign:=qE,body,defers:=w.heap.size}=ob
 have hold:∀n,n<w.heap.size→((w.alloc (.deferred (some []))).alloc ob).heap[n]? =w.heap[n]? :=fun n hn=>(heap_alloc_old _ _ n (by rw [World.size_alloc];omega)).trans (heap_alloc_old w _ n hn)
 have hd:((w.alloc (.deferred (some []))).alloc ob).heap[w.heap.size]? =some (.deferred (some [])):=(heap_alloc_old _ _ _ (by rw [World.size_alloc];omega)).trans (heap_alloc_new w _)
 have hlp:((w.alloc (.deferred (some []))).alloc ob).heap[w.heap.size+1]? =some ob:=by
  have:=heap_alloc_new (w.alloc (.deferred (some []))) ob
  rwa [World.size_alloc] at this
 have le:=wZ e h w.heap.size
 have get:∀(i:Nat) (b:Blk),(h++[.g (some ⟨w.heap.size+1,t,ps,qE,body,.ready,none⟩)])[i]? =some b→(i<h.length∧h[i]? =some b)∨(i=h.length∧b= .g (some ⟨w.heap.size+1,t,ps,qE,body,.ready,none⟩)):=fun i b hi=>by
  rcases Nat.lt_or_ge i h.length with h1|h1
  ·rw [List.getElem?_append_left h1] at hi;exact .inl ⟨h1,hi⟩
  ·rw [List.getElem?_append_right h1] at hi
   have:=(List.getElem?_eq_some_iff.1 hi).1
   simp at this
   have hq:i=h.length:=by omega
   subst hq
   simp at hi
   exact .inr ⟨rfl,hi.symm⟩
 exact {
  os:=R.os,tape:=R.tape,output:=R.output
  size:=by have:=R.size;rw [World.size_alloc,World.size_alloc];omega
  inj:=R.inj,dom:=fun i p hi=>by have:=R.dom i p hi;simp;omega
  sep:=R.sep
  g6:=fun n c ty fr hz=>by rw [hold n (R.P1 hz)];exact R.g6 n c ty fr hz
  bz:=R.bz,news:=R.news,bF:=R.bF,bZ:=R.bZ,n0:=R.n0,cW:=R.cW
  gj:=fun i qs hi=>by
   rcases get i _ hi with ⟨h1,h2⟩|⟨_,h2⟩
   ·rcases R.gj i qs h2 with g|⟨p,o,hq,ho,Yc⟩
    ·exact .inl g
    ·exact .inr ⟨p,o,hq,by rw [hold p.n (R.lt hq)];exact ho,Yc.mono le⟩
   ·cases h2
  gap:=fun i g hi=>by
   rcases get i _ hi with ⟨h1,h2⟩|⟨h1,h2⟩
   ·refine ⟨(R.gap i g h2).1,?_⟩
    have hg:=(R.gap i g h2).2
    cases g with
    |none=>trivial
    |some L=>exact hg.le (fun n o hn=>by rw [hold n (Array.getElem?_eq_some_iff.1 hn).1];exact hn) (Sg h2) le
   ·cases h2
    refine ⟨?_,?_,_,by rw [hlp, ←BP],rfl,rfl,rfl,rfl,rfl,hl.mono le⟩
    ·cases hq:e.r i with
     |none=>exact hq
     |some p=>have:=R.dom _ p hq;omega
    ·show (if i=h.length then _ else _)=_
     rw [if_pos h1]
  yi:=fun i j n hi hj=>by
   rcases w5 R hi with ⟨h1,h2⟩|⟨h1,h2,h3⟩<;>rcases w5 R hj with ⟨g1,g2⟩|⟨g1,g2,g3⟩
   ·omega
   ·omega
   ·omega
   ·exact R.yi i j n h2 g2
  yb:=fun i n hi=>by
   rcases w5 R hi with ⟨h1,h2⟩|⟨h1,h2,h3⟩
   ·exact .inr (by have:=R.size;omega)
   ·exact R.yb i n h2
  old:=fun n hn hno qt=>by rw [hold n (by have:=R.size;omega)];exact R.old n hn hno qt
  win:=fun i p hi=>by
   obtain ⟨o,o',h1,h2,h3⟩:=R.win i p hi
   exact ⟨o,o',h1,by rw [hold p.n (R.lt (R.bF i p hi))];exact h2,h3⟩
  kr:=R.kr
  iO:=by have:=R.iO;simp;omega
  iZ:=fun r hr=>by
   rcases List.mem_cons.1 hr with rfl|hr
   ·exact ⟨hd,R.size⟩
   ·have:=R.iZ r hr
    exact ⟨by rw [hold r (Array.getElem?_eq_some_iff.1 this.1).1];exact this.1,this.2⟩
  kf:=List.nodup_cons.2 ⟨fun hm=>by have:=(Array.getElem?_eq_some_iff.1 (R.iZ _ hm).1).1;omega,R.kf⟩}
theorem Rel.M6 (R:Rel B e h w) {i:Nat} {g:Option Lp} (hi:h[i]? =some (.g g)):Rel B e (h.set i .gap) w:={R with
 dom:=fun j p hj=>by simpa using R.dom j p hj
 gj:=fun j ps hj=>by
  by_cases hij:i=j
  ·subst hij;rw [List.getElem?_set_self (List.getElem?_eq_some_iff.1 hi).1] at hj;cases hj
  ·rw [List.getElem?_set_ne hij] at hj;exact R.gj j ps hj
 gap:=fun j g' hj=>by
  by_cases hij:i=j
  ·subst hij;rw [List.getElem?_set_self (List.getElem?_eq_some_iff.1 hi).1] at hj;cases hj;exact ⟨(R.gap i g hi).1,trivial⟩
  ·rw [List.getElem?_set_ne hij] at hj;exact R.gap j g' hj
 iO:=by simpa using R.iO}
end
section
variable {P:Program}
theorem Tr.range {k:Nat} {g:Operand} {ps:Array Tmp} {qE body:Code} {f:FuncId} {fn:Func} {first kG:List SV} {s:St} {v:SV} {h1:Nat→List Blk} {hf:List Blk} {q:Option Code} {x:Exit} (ob:Bool)
  (hfn:P.funcs[f]? =some fn) (hn:(fn.name != "runtime.NumGoroutine")=true) (hb:fn.body.isSome=true) (hg:ev s.t g=some (.fn (.func f) first kG))
  (lA:∀l,ai P f (first++[.fn (.yield l) [] []]++kG) (s.h++[.g (some ⟨l,s.t,ps,qE,body,.ready,none⟩)]) v (h1 l))
  (hL:∀l,∃L,o6 (h1 l) s.h.length=some L∧L.l=l∧L.st≠.busy∧L.fB=q) (hh:∀l,(h1 l).set s.h.length .gap=hf) (hx:sR x=some q):
  Tr P none k (.rangeFunc g ps qE body) s x ⟨s.t,hf,ob⟩:=by
 intro B e w t' d Q nn hB hl R hQ
 refine wpIn_rangeFunc fun aeH _=>?_
 have R1:=R.enter hl aeH ps qE body
 generalize hW:(w.alloc (.deferred (some []))).alloc (.loop {state:=.ready,pending:=none,fn:=aeH,tmps:=⟨t'⟩,params:=ps,assign:=qE,body,defers:=w.heap.size})=W1 at R1
 obtain ⟨ys,us,hy,hu,hgv⟩:=aN (d:=mkD e.m++d) hl hg
 have hargs:LR (e.enter s.h w.heap.size) (first++[.fn (.yield (w.heap.size+1)) [] []]++kG) (ys++[.func (.yield (w.heap.size+1)) #[] #[]]++us):=
  ((hy.mono (wZ e _ _)).append (LR.one (show VR (e.enter s.h w.heap.size) (.fn (.yield (w.heap.size+1)) [] []) (.func (.yield (w.heap.size+1)) #[] #[]) from ⟨[],[],rfl,rfl,rfl⟩))).append (hu.mono (wZ e _ _))
 have P3:fn.body≠none:=fun q=>by rw [q] at hb;cases hb
 have YG:=eZ hfn (by simpa using hn) P3 ⟨ys++[.func (.yield (w.heap.size+1)) #[] #[]]++us⟩ W1
 refine ⟨w.heap.size+1,[{target:=.collected w.heap.size,args:=#[]}],W1,{target:=.fn (.func f) ⟨us⟩,args:=⟨ys++[.func (.yield (w.heap.size+1)) #[] #[]]⟩},W1,f,⟨ys++[.func (.yield (w.heap.size+1)) #[] #[]]++us⟩,W1,?_,?_,fun _ _=>trivial,?_,fun h=>by simp [wF,Fence.wide] at h,p9.2 ?_⟩
 ·rw [←hW];exact run_enterLoop_outer _ _ _ _ _
 ·simp only [resolve,hgv,Deferred.ofValue,Sem.run_pure]
  congr 2
  apply Array.ext'
  simp [Act.eval]
 ·simp only [invoke]
  rw [←YG]
  congr 2
  apply Array.ext'
  simp
 ·refine (lA (w.heap.size+1) _ _ W1 _ (Nat.le_refl _) (hargs.mono (oR _ _)) R1.self).mono ?_
  rintro en w' ⟨v',rfl,e',_,hv,S⟩
  have T:=R1.trans S
  obtain ⟨L,ajC,hLl,ajD,hLp⟩:=hL (w.heap.size+1)
  have Sa:=mo ajC
  obtain ⟨_,_,r,hr,_,_,_,hst,hpd,_⟩:=T.gap _ _ Sa
  have T2:=T.rq Sa hr .exhausted L.fB
  have T3:=T2.M6 (i:=s.h.length) (List.getElem?_set_self (List.getElem?_eq_some_iff.1 Sa).1)
  rw [List.set_set,hh] at T3
  rw [hLl] at hr
  refine ⟨r.pending,_,run_endLoop hr (by rw [hst];exact ajD),?_⟩
  have hpq:r.pending=q:=hpd.trans hLp
  have le:Env.Le e {e' with m:=(e.enter s.h w.heap.size).m}:=⟨fun i p hp=>S.bF i p hp,fun n o ho=>S.bZ n o ho,by show e'.n0≤e.n0;rw [S.n0];exact Nat.le_refl _⟩
  have fin:=hQ {e' with m:=(e.enter s.h w.heap.size).m} _ t' (hl.mono le) T3
  have hpe:L.fB=r.pending:=hLp.trans hpq.symm
  rw [hpe,hLl] at fin
  rw [hpq]
  rw [hpq] at fin
  cases x<;>simp only [sR,Option.some.injEq,reduceCtorEq] at hx<;>subst hx
  ·rw [←hpq];rw [hpq];exact fin
  ·exact wpIn_exit fin
  ·exact wpIn_ret fin
def aeI (id:Nat):Code→Bool
 | .block j (.rangeFunc _ _ _ _)=>j==id
 |_=>false
def rfG:Code→Operand
 | .rangeFunc g _ _ _=>g
 |_=>.const .nilFunc
def rfP:Code→Array Tmp
 | .rangeFunc _ ps _ _=>ps
 |_=>#[]
noncomputable def rfA:Code→Code
 | .rangeFunc _ _ a _=>a
 |_=>.skip
noncomputable def rfB:Code→Code
 | .rangeFunc _ _ _ b=>b
 |_=>.skip
noncomputable def FB (c:Code) (t:List (Option SV)) (l:Nat):Lp:=⟨l,t,rfP (inner c),rfA (inner c),rfB (inner c),.ready,none⟩
theorem Tr.y6 (id:Nat) {k:Nat} {c:Code} (hc:aeI id c=true) {f:FuncId} {fn:Func} {first kG:List SV} {s:St} {v:SV} {h1:Nat→List Blk} {hf:List Blk} (ob:Bool)
  (hfn:P.funcs[f]? =some fn) (hn:(fn.name != "runtime.NumGoroutine")=true) (hb:fn.body.isSome=true) (hg:ev s.t (rfG (inner c))=some (.fn (.func f) first kG))
  (lA:∀l,ai P f (first++[.fn (.yield l) [] []]++kG) (s.h++[.g (some (FB c s.t l))]) v (h1 l))
  (hL:∀l,∃L,o6 (h1 l) s.h.length=some L∧L.l=l∧L.st≠.busy∧L.fB=none) (hh:∀l,(h1 l).set s.h.length .gap=hf):
  Tr P none k c s .normal ⟨s.t,hf,ob⟩:=by
 cases c<;>simp only [aeI,Bool.false_eq_true] at hc
 rename_i j b
 cases b<;>simp only [Bool.false_eq_true] at hc
 exact Tr.fN (Tr.range ob hfn hn hb hg lA hL hh rfl) (by simp)
end
end Go.Sy
