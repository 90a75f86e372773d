/- This file ties the interpreter's calls to a row's statement: a law called with what came in returns what is reckoned, and writes nothing that was there. Conditions: what came in reads as data. -/
import Derived.Test.YthlnlcijnoadcaaGreatDoorGMc
import Derived.Below
import Derived.WideShapes
noncomputable section
set_option linter.all false
namespace Go.Sy
open Go
def Glb (w:World):Prop:=∀(g:Nat) (k:IntKind) (xs:List Int),Fh g=some (k,xs)->∃c t fr,w.heap[g]? =some (.cells c t fr)/\aU k xs=c.toList.take xs.length
theorem Rel.start (w:World) (hg:Glb w:=by intro _ _ _ h;cases h):Rel ⟨w,gX (e8 w) w.heap.size,0,[]⟩ (gX (e8 w) w.heap.size) [] w where
 os:=rfl
 tape:=rfl
 output:=rfl
 size:=aaf _
 inj:=λi j p q hi=>by cases hi
 dom:=λi p hi=>by cases hi
 sep:=λi p hi=>by cases hi
 eU:=λn c ty fr hx=>qm hx
 bp:=λ_ _ hx=>.inl hx
 dU:=λg k xs h=>(hg g k xs h).imp λc ⟨t,fr,h1,h2⟩=>⟨t,fr,kY h1,h2⟩
 news:=λ_ _ hi=>.inl hi
 bA:=λ_ _ hi=>hi
 bM:=λ_ _ hx=>hx
 n0:=rfl
 cI:=aaf _
 ew:=λi ps hi=>by simp at hi
 gap:=λi g hi=>by simp at hi
 yi:=λi j n hi=>by cases hi
 yb:=λi n hi=>by cases hi
 old:=λ_ _ _ _=>rfl
 win:=λi p hi=>by cases hi
 kr:=λi p hi=>by cases hi
 fO:=aaf _
 fc:=λr hr=>by cases hr
 gJ:=List.nodup_nil
section
variable {P:Program}
theorem ai.below {f:FuncId} {args:List SV} {args':List Value} {h':List Blk} {b:Bool} (g:ai P f args [] (.bool b) h') {w:World} (hl:LR (gX (e8 w) w.heap.size) args args') (hg:Glb w:=by intro _ _ _ h;cases h):
  Calls P f ⟨args'⟩ w λe w'=>e= .returned (.bool b)/\Go.RowKit.Below w.heap.size w w':=by
 refine (g _ _ w args' (aaf _) hl (Rel.start w hg)).mono ?_
 rintro x w' ⟨v',rfl,e',_,hv,R'⟩
 rw [VR] at hv
 subst hv
 exact ⟨rfl,R'.os,R'.tape,R'.output,R'.size,λn hn=>R'.old n hn (λi p hi=>by cases hi) (by simp)⟩
theorem VC {w:World} {r:Reach} {base:Nat} {t:TypeId} {v:Value} {k:IntKind} {n:Nat} (ha:(P.underlying t).map (λ| .struct _=>true| .array _ _=>true|_=>false)=some true)
  (hc:(P.cellTypes P.depth t).map (λts=>ts.all λu=>isInt P u==some k)=some true) (hn:P.cellsOf t=n) (h:Value.okWide P w r base t v):
  ∃zs:List Int,v= .agg ⟨aU k zs⟩/\zs.length=n/\∀z∈zs,k.has z:=by
 have h':∃cs,v= .agg cs/\cs.size=P.cellsOf t/\Row.okWide P w r base t cs:=by
  unfold Value.okWide at h
  cases hu:P.underlying t with
  |none=>rw [hu] at ha;cases ha
  |some u=>rw [hu] at ha h;cases u<;>first|exact h|(cases ha;done)
 obtain ⟨cs,rfl,hs,ts,hts,_,hall⟩:=h'
 rw [hts] at hc
 simp only [aaH,No,aah,aaS] at hc
 have cell:∀(i:Nat) (v:Value),cs[i]? =some v->∃z:Int,v=Value.int k z/\k.has z:=λi v hi=>by
  obtain ⟨u,hu,hok⟩:=hall i v hi
  have hk:=hc u (aaG hu)
  have hk':P.underlying u=some (.int k):=by
   unfold isInt at hk
   split at hk
   ·rename_i hx;cases hk;exact hx
   ·cases hk
  simp only [Cell.okWide,hk',Cell.ok] at hok
  cases v<;>simp_all
 have hex:∀l:List Value,(∀v∈l,∃z:Int,v=Value.int k z/\k.has z)->∃zs:List Int,l=aU k zs/\∀z∈zs,k.has z:=by
  intro l
  induction l with
  |nil=>intro _;exact ⟨[],rfl,by simp⟩
  |cons a l ih=>
   intro hl
   obtain ⟨z,rfl,hz⟩:=hl a (by simp)
   obtain ⟨zs,rfl,hzs⟩:=ih λv hv=>hl v (by simp [hv])
   refine ⟨z::zs,rfl,λy hy=>?_⟩
   rcases ad2.1 hy with rfl|hy
   ·exact hz
   ·exact hzs y hy
 obtain ⟨zs,hzs,hk⟩:=hex cs.toList λv hv=>by
  obtain ⟨i,hi⟩:=aep.1 hv
  exact cell i v (by simpa using hi)
 refine ⟨zs,by rw [<-hzs],?_,hk⟩
 have:=adX List.length hzs
 rw [aF] at this
 simp at this
 omega
theorem w6 {w:World} {a:Addr} {c:Array Value} {t:TypeId} {fr:Nat×Nat} {k:IntKind} {zs:List Int} (hb:w.heap[a.block]? =some (.cells c t fr)) (hs:a.spot=none)
  (hc:∀i,i<zs.length->w.cell? (a.add i)=some (.int k (zs.getD i 0))):aU k zs=(c.toList.drop a.off).take zs.length:=by
 have key:∀i,i<zs.length->c.toList[a.off+i]? =some (.int k (zs.getD i 0)):=λi hi=>by
  have h:=hc i hi
  unfold World.cell? Addr.add at h
  split at h
  ·rename_i c' t' fr' hb'
   split at hb'
   ·rename_i h0
    subst h0
    rw [hb] at hb'
    cases hb'
    simp only [if_true,hs] at h
    simpa using h
   ·simp only [hb,No,Obj.cells.injEq] at hb'
    obtain ⟨rfl,rfl,rfl⟩:=hb'
    rename_i rY
    rw [aaC rY] at h
    simpa using h
  ·cases h
 apply abf
 intro i
 simp only [aU,aaO,aa8,aaQ]
 by_cases hi:i<zs.length
 ·rw [aaM hi,key i hi]
  simp [List.getD,aai hi]
 ·rw [aaC hi,aaJ (by omega)];rfl
theorem vb {w:World} {r:Reach} {base:Nat} {t e:TypeId} {a:Addr} {len cap:Nat} (ht:P.underlying t=some (.slice e)) (h:Value.okWide P w r base t (.slice (some a) len cap)):
  len<=cap/\a.spot=none/\∃c t' fr,w.heap[a.block]? =some (.cells c t' fr):=by
 simp only [Value.okWide,ht,Cell.okWide,Cell.ok,World.has] at h
 obtain ⟨hl,_,_,hs,row,cells,hsh,_⟩:=h
 refine ⟨hl,hs,?_⟩
 unfold World.shape? at hsh
 split at hsh
 ·rename_i c el fr hb
  exact ⟨c,el,fr,hb⟩
 ·simp at hsh
theorem lV.F9 {w:World} {a:Addr} {c:Array Value} {t:TypeId} {fr:Nat×Nat} {k:IntKind} {zs:List Int} {len cap m:Nat} (hb:w.heap[a.block]? =some (.cells c t fr)) (hs:a.spot=none) (hcap:zs.length=cap) (hlen:len<=cap)
  (hc:∀i,i<zs.length->w.cell? (a.add i)=some (.int k (zs.getD i 0))):lV (gX (e8 w) m) false k (zs.take len) (.slice (some a) len cap):=by
 have hl:(zs.take len).length=len:=by rw [aaU];omega
 by_cases h0:cap=0
 ·exact .inl ⟨aaw.1 (by omega),_,cap,by rw [show len=0 by omega],λq=>by cases q⟩
 ·obtain ⟨b,o,sp⟩:=a
  simp only at hs
  subst hs
  have hw:=w6 hb rfl hc
  have hsz:o+cap<=c.size:=by
   have:=adX List.length hw
   rw [aF,aaU,aaN] at this
   simp only [adR] at this
   omega
  refine .inr ⟨b,o,cap,c,t,fr,by rw [hl],kY hb,(λq=>by cases q),?_,by omega,hsz⟩
  rw [cw,hw,hl,adD,hcap,ab6 hlen]
end
end Go.Sy
namespace Go.Sy
open Go
mutual
def pE:SV->Bool
 | .ro _ _ _=>false
 | .gf _ _=>false
 | .aJ _ _ _ _=>false
 | .oF _ _ _=>false
 | .rE _ _ _=>false
 | .lX _ _ _ _ _ _ _=>false
 | .rows _ _ _=>false
 | .agg ps=>kf ps
 | .bC vs=>kf vs
 | .iface _ x=>pE x
 | .fn _ a b=>kf a&&kf b
 |_=>true
def kf:List SV->Bool
 | []=>true
 |x::xs=>pE x&&kf xs
end
section
variable {e e':Env} {s:Nat->Nat}
mutual
theorem VR.lJ:∀{v:SV} {v':Value},pE v=true->(∀j p,uses j v=true->e.r j=some p->e'.r (s j)=some p)->VR e v v'->VR e' (jm s v) v'
 | .bool _,_,_,_,h=>h
 | .int _ _,_,_,_,h=>h
 | .str _,_,_,_,h=>h
 | .nl _,_,_,_,h=>h
 | .ints _ _ _,_,_,_,h=>h
 | .ptr b _ _,_,_,g,⟨p,h1,h2⟩=>⟨p,g b p (by simp [uses]) h1,h2⟩
 | .sl b _ _ _ _ _ _ _,_,_,g,h=>by
  rcases h with h|⟨p,c,a,h1,h2⟩
  ·exact .inl h
  ·exact .inr ⟨p,c,a,g b p (by simp [uses]) h1,h2⟩
 | .ro _ _ _,_,n,_,_=>by simp [pE] at n
 | .gf _ _,_,n,_,_=>by simp [pE] at n
 | .aJ _ _ _ _,_,n,_,_=>by simp [pE] at n
 | .oF _ _ _,_,n,_,_=>by simp [pE] at n
 | .rE _ _ _,_,n,_,_=>by simp [pE] at n
 | .lX _ _ _ _ _ _ _,_,n,_,_=>by simp [pE] at n
 | .agg ps,_,n,g,⟨ys,h1,h2⟩=>⟨ys,PR.lJ (by simpa [pE] using n) (λj p q=>g j p (by simpa [uses] using q)) h1,h2⟩
 | .bC vs,_,n,g,⟨ys,h1,h2⟩=>⟨ys,LR.lJ (by simpa [pE] using n) (λj p q=>g j p (by simpa [uses] using q)) h1,h2⟩
 | .iface _ x,_,n,g,⟨y,h1,h2⟩=>⟨y,VR.lJ (v:=x) (by simpa [pE] using n) (λj p q=>g j p (by simpa [uses] using q)) h1,h2⟩
 | .fn _ a b,_,n,g,⟨ys,us,h1,h2,h3⟩=>by
  simp only [pE,aac] at n
  exact ⟨ys,us,LR.lJ n.1 (λj p q=>g j p (by simp [uses,q])) h1,LR.lJ n.2 (λj p q=>g j p (by simp [uses,q])) h2,h3⟩
 | .rows _ _ _,_,_,_,h=>h.elim
 | .bK b _ _ _ _,_,_,g,h=>by
  rcases h with h|⟨p,c,a,h1,h2⟩
  ·exact .inl h
  ·exact .inr ⟨p,c,a,g b p (by simp [uses]) h1,h2⟩
 | .dm b _ _ _ _,_,_,g,⟨p,h1,h2⟩=>⟨p,g b p (by simp [uses]) h1,h2⟩
 | .qQ b,_,_,g,⟨p,h1,h2⟩=>⟨p,g b p (by simp [uses]) h1,h2⟩
 | .dU _ _,_,_,_,h=>h
theorem LR.lJ:∀{vs:List SV} {ys:List Value},kf vs=true->(∀j p,c6 j vs=true->e.r j=some p->e'.r (s j)=some p)->LR e vs ys->LR e' (fM s vs) ys
 | [],_,_,_,h=>h
 |x::xs,_,n,g,⟨y,zs,h1,h2,h3⟩=>by
  simp only [kf,aac] at n
  exact ⟨y,zs,VR.lJ n.1 (λj p q=>g j p (by simp [c6,q])) h1,LR.lJ n.2 (λj p q=>g j p (by simp [c6,q])) h2,h3⟩
theorem PR.lJ:∀{vs:List SV} {ys:List Value},kf vs=true->(∀j p,c6 j vs=true->e.r j=some p->e'.r (s j)=some p)->PR e vs ys->PR e' (fM s vs) ys
 | [],_,_,_,h=>h
 |x::xs,ys,n,g,h=>by
  simp only [kf,aac] at n
  have ih:=λzs=>PR.lJ (vs:=xs) (ys:=zs) n.2 (λj p q=>g j p (by simp [c6,q]))
  have iv:=λy=>VR.lJ (v:=x) (v':=y) n.1 (λj p q=>g j p (by simp [c6,q]))
  cases x<;>first
   |(simp [pE] at n;done)
   |(obtain ⟨zs,h1,h2⟩:=h;exact ⟨zs,ih zs h1,h2⟩)
   |(obtain ⟨y,zs,h1,h2,h3⟩:=h;exact ⟨y,zs,iv y h1,ih zs h2,h3⟩)
end
end
def nA (is:List Nat) (h:List Blk):List Blk:=h.zipIdx.map λ(b,i)=>match is.contains i,b with
 |true,.b _=>.b []
 |_,b=>b
mutual
def cR (is:List Nat) (hg:List Blk):SV->Option (SV×Bool×Bool)
 | .ptr b o i=>if is.contains b then some (.ptr (is.idxOf b) o i,true,false) else none
 | .sl b o i z len cap ex wh=>if is.contains b then some (.sl (is.idxOf b) o i z len cap ex wh,true,false) else bB hg (.sl b o i z len cap ex wh)
 | .fn f a b=>match mB is hg a,mB is hg b with
  |some (x,p,s),some (y,q,t)=>some (.fn f x y,aa p q,s||t)
  |_,_=>none
 | .agg ps=>match mB is hg ps with
  |some (l,p,t)=>some (.agg l,p,t)
  |none=>none
 | .iface ty x=>match cR is hg x with
  |some (y,p,t)=>some (.iface ty y,p,t)
  |none=>none
 | .bool b=>bB hg (.bool b)
 | .int k n=>bB hg (.int k n)
 | .str s=>bB hg (.str s)
 | .nl v=>bB hg (.nl v)
 | .ints k n xs=>bB hg (.ints k n xs)
 | .ro f k xs=>bB hg (.ro f k xs)
 | .gf f xss=>bB hg (.gf f xss)
 | .aJ f z len g=>bB hg (.aJ f z len g)
 | .bK b z len cap ex=>if is.contains b then some (.bK (is.idxOf b) z len cap ex,true,false) else bB hg (.bK b z len cap ex)
 | .dm b z e o i=>if is.contains b then some (.dm (is.idxOf b) z e o i,true,false) else none
 | .qQ b=>if is.contains b then some (.qQ (is.idxOf b),true,false) else none
 |_=>none
def mB (is:List Nat) (hg:List Blk):List SV->Option (List SV×Bool×Bool)
 | []=>some ([],true,false)
 |x::xs=>match cR is hg x,mB is hg xs with
  |some (y,p,a),some (l,q,b)=>some (y::l,aa p q,a||b)
  |_,_=>none
end
theorem yS {is:List Nat} {hg:List Blk} {v u:SV} {p t:Bool} (g:cR is hg v=some (u,p,t)) (hn:bn v=true):bn u=true:=by
 cases v<;>simp only [cR] at g
 case ptr=>split at g<;>cases g;rfl
 case sl=>
  split at g
  ·cases g;rfl
  ·exact jF g rfl
 case fn=>split at g<;>cases g;rfl
 case agg=>split at g<;>cases g;rfl
 case iface=>split at g<;>cases g;rfl
 case bK=>
  split at g
  ·cases g;rfl
  ·exact jF g rfl
 case dm=>split at g<;>cases g;rfl
 case qQ=>split at g<;>cases g;rfl
 case ints=>cases hn
 all_goals first|exact jF g rfl|cases g
def eL (h:List Blk):List Nat->List Blk->List Blk
 |i::is,b::bs=>eL (h.set i b) is bs
 |_,_=>h
def DE (s:Nat->Nat):Blk->Blk
 | .b ps=>.b (fM s ps)
 | .g _=>.gap
theorem nM:∀{h:List Blk} {is:List Nat} {bs:List Blk},(eL h is bs).length=h.length
 |_,[],_=>by simp [eL]
 |_,_::_,[]=>by simp [eL]
 |h,i::is,b::bs=>by simp only [eL];rw [nM,List.length_set]
theorem m5:∀{h:List Blk} {is:List Nat} {bs:List Blk} {i:Nat},i ∉ is->(eL h is bs)[i]? =h[i]?
 |_,[],_,_,_=>by simp [eL]
 |_,_::_,[],_,_=>by simp [eL]
 |h,a::is,b::bs,i,hi=>by
  simp only [ad2,not_or] at hi
  simp only [eL]
  rw [m5 hi.2,aau (λq=>hi.1 q.symm)]
theorem tq:∀{h:List Blk} {is:List Nat} {bs:List Blk} {q i:Nat},is.Nodup->is[q]? =some i->i<h.length->q<bs.length->(eL h is bs)[i]? =bs[q]?
 |_,[],_,_,_,_,hq,_,_=>by simp at hq
 |_,_::_,[],_,_,_,_,_,hb=>by simp at hb
 |h,a::is,b::bs,0,i,hn,hq,hl,_=>by
  simp at hq;subst hq
  simp only [eL]
  rw [m5 (List.nodup_cons.1 hn).1]
  simp [hl]
 |h,a::is,b::bs,q+1,i,hn,hq,hl,hb=>by
  simp only [eL]
  have:=tq (h:=h.set a b) (is:=is) (bs:=bs) (q:=q) (i:=i) (List.nodup_cons.1 hn).2 (by simpa using hq) (by simpa using hl) (by simpa using hb)
  simpa using this
theorem q8 {is:List Nat} {h:List Blk}:(nA is h).length=h.length:=by simp [nA]
theorem pF {is:List Nat} {h:List Blk} {i:Nat}:(nA is h)[i]? =(h[i]?).map λb=>match is.contains i,b with
  |true,.b _=>.b []
  |_,b=>b:=by
 unfold nA
 rw [aaO,List.getElem?_zipIdx]
 cases h[i]? <;>simp
section
variable {P:Program} {B:cP} {e:Env} {h:List Blk} {w:World}
theorem Rel.nA (R:Rel B e h w) (is:List Nat):Rel B e (nA is h) w:={R with
 dom:=λi p hi=>by rw [q8];exact R.dom i p hi
 ew:=λi ps hi=>by
  rw [pF] at hi
  cases hq:h[i]? with
  |none=>simp [hq] at hi
  |some b=>
   simp only [hq,aaH,No] at hi
   cases hc:is.contains i with
   |false=>
    rw [hc] at hi
    simp only at hi
    subst hi
    exact R.ew i ps hq
   |true=>
    rw [hc] at hi
    cases b with
    |g _=>cases hi
    |b qs=>
     simp only [Blk.b.injEq] at hi
     subst hi
     rcases R.ew i qs hq with ⟨g1,g2⟩|⟨p,o,g1,g2,c,t,rfl,g3,g4,g5⟩
     ·exact .inl ⟨rfl,g2⟩
     ·exact .inr ⟨p,_,g1,g2,c,t,rfl,g3,aap _,by simp [av,PR]⟩
 gap:=λi g hi=>by
  rw [pF] at hi
  cases hq:h[i]? with
  |none=>simp [hq] at hi
  |some b=>
   cases b with
   |g g'=>
    simp only [hq,aaH,No] at hi
    have:g'=g:=by cases hc:is.contains i<;>rw [hc] at hi<;>cases hi<;>rfl
    subst this
    exact R.gap i _ hq
   |b ps=>
    simp only [hq,aaH,No] at hi
    cases hc:is.contains i<;>rw [hc] at hi<;>cases hi
 fO:=by rw [q8];exact R.fO}
end
def pG (e:Env) (is:List Nat) (z:Nat->Option (Array Value×TypeId×(Nat×Nat))) (n:Nat):Env:=⟨λq=>(is[q]?).bind e.r,z,n,[],λ_=>none⟩
def w7 (e:Env) (is:List Nat) (n:Nat):Bool:=is.any λi=>match e.r i with
 |some p=>p.n==n
 |none=>false
def AK (e:Env) (w:World) (t:Bool):Nat:=match t with
 |true=>w.heap.size
 |false=>e.n0
def zC (e:Env) (w:World) (is:List Nat) (t:Bool):Nat->Option (Array Value×TypeId×(Nat×Nat)):=λn=>match t with
 |true=>match w7 e is n with
  |true=>none
  |false=>e8 w n
 |false=>e.z n
section
variable {P:Program} {B:cP} {e:Env} {h:List Blk} {w:World}
theorem pH {is:List Nat} {n:Nat}:w7 e is n=true↔∃i p,i∈is/\e.r i=some p/\p.n=n:=by
 unfold w7
 rw [aaT]
 constructor
 ·rintro ⟨i,hi,hq⟩
  cases hp:e.r i with
  |none=>simp [hp] at hq
  |some p=>simp [hp] at hq;exact ⟨i,p,hi,hp,hq⟩
 ·rintro ⟨i,p,hi,hp,hn⟩
  exact ⟨i,hi,by simp [hp,hn]⟩
theorem w8 {is:List Nat} {b:Nat} (hb:is.contains b=true):is[is.idxOf b]? =some b:=by
 have hm:b∈is:=by simpa using hb
 rw [aai (List.idxOf_lt_length_of_mem hm)]
 simp
theorem VD (R:Rel B e h w) {is:List Nat} {T:Bool} {n:Nat} {x:Array Value×TypeId×(Nat×Nat)} (hx:e.z n=some x):zC e w is T n=some x:=by
 cases T with
 |false=>exact hx
 |true=>
  have hl:w7 e is n=false:=by
   cases hl:w7 e is n with
   |false=>rfl
   |true=>
    obtain ⟨i,p,_,hp,rfl⟩:=pH.1 hl
    rw [R.sep i p hp] at hx;cases hx
  simp only [zC,hl]
  obtain ⟨c,ty,fr⟩:=x
  exact kY (R.eU n c ty fr hx)
theorem gP (R:Rel B e h w) {is:List Nat} {T:Bool} (m:Nat) {v u:SV} {t:Bool} {v':Value} (g:bB (Sy.nA is h) v=some (u,true,t)) (ht:t=true->T=true) (hv:VR e v v'):VR (pG e is (zC e w is T) m) u v':=by
 have fR:∀n x,e.z n=some x->zC e w is T n=some x:=λn x hx=>by
  cases T with
  |false=>exact hx
  |true=>
   have hl:w7 e is n=false:=by
    cases hl:w7 e is n with
    |false=>rfl
    |true=>
     obtain ⟨i,p,_,hp,rfl⟩:=pH.1 hl
     rw [R.sep i p hp] at hx;cases hx
   simp only [zC,hl]
   obtain ⟨c,ty,fr⟩:=x
   exact kY (R.eU n c ty fr hx)
 have:=kZ (R.nA is) (zz:=zC e w is T) fR (T:=T) (λhT i p c ty hne hp hc=>by
  subst hT
  have hl:w7 e is p.n=false:=by
   cases hl:w7 e is p.n with
   |false=>rfl
   |true=>
    exfalso
    obtain ⟨i',p',hi',hp',hn⟩:=pH.1 hl
    have:=R.inj i' i p' p hp' hp hn
    subst this
    have Ko:=R.dom i' p hp
    refine hne ?_
    rw [pF,aai Ko,aaH,show is.contains i'=true by simpa using hi']
    cases hb:h[i'] with
    |b ps=>rfl
    |g _=>
     have:=(R.gap i' _ (by rw [aai Ko,hb])).1
     rw [hp] at this;cases this
  show zC e w is true p.n=_
  simp only [zC,hl]
  exact kY hc) m g ht hv
 exact VR.mono (e:=gX (zC e w is T) m) (e':=pG e is (zC e w is T) m) ⟨(λ_ _ h=>by cases h),λ_ _ h=>h,aaf _⟩ this
theorem tr {is:List Nat} {z:Nat->Option (Array Value×TypeId×(Nat×Nat))} {m:Nat}:∀b p,is.contains b=true->e.r b=some p->(pG e is z m).r (is.idxOf b)=some p:=λb p hb hp=>by
 show (is[is.idxOf b]?).bind e.r=some p
 rw [w8 hb];exact hp
mutual
theorem oa (R:Rel B e h w) {is:List Nat} {T:Bool} (m:Nat):∀{v u:SV} {t:Bool} {v':Value},cR is (nA is h) v=some (u,true,t)->(t=true->T=true)->VR e v v'->VR (pG e is (zC e w is T) m) u v'
 | .ptr b o i,u,t,v',g,ht,hv=>by
  simp only [cR] at g
  split at g
  ·rename_i hb
   cases g
   obtain ⟨p,h1,h2⟩:=hv
   exact ⟨p,tr b p hb h1,h2⟩
  ·cases g
 | .sl b o i z len cap ex wh,u,t,v',g,ht,hv=>by
  simp only [cR] at g
  split at g
  ·rename_i hb
   cases g
   rcases hv with hv|⟨p,c,a,h1,h2⟩
   ·exact .inl hv
   ·exact .inr ⟨p,c,a,tr b p hb h1,h2⟩
  ·exact gP R m g ht hv
 | .fn f a b,u,t,v',g,ht,hv=>by
  simp only [cR] at g
  split at g
  ·rename_i x p s y q t' ha hb
   simp only [No,aae,aC] at g
   obtain ⟨rfl,⟨rfl,rfl⟩,rfl⟩:=g
   obtain ⟨ys,us,h1,h2,rfl⟩:=hv
   exact ⟨ys,us,lf R m ha (λh=>ht (by rw [h];rfl)) h1,lf R m hb (λh=>ht (by rw [h];exact Bool.or_true _)) h2,rfl⟩
  ·cases g
 | .agg ps,u,t,v',g,ht,hv=>by
  simp only [cR] at g
  split at g
  ·rename_i l p t' hl
   simp only [No,aae] at g
   obtain ⟨rfl,rfl,rfl⟩:=g
   obtain ⟨ys,h1,rfl⟩:=hv
   exact ⟨ys,oc R m hl ht h1,rfl⟩
  ·cases g
 | .iface ty x,u,t,v',g,ht,hv=>by
  simp only [cR] at g
  split at g
  ·rename_i y p t' hl
   simp only [No,aae] at g
   obtain ⟨rfl,rfl,rfl⟩:=g
   obtain ⟨y',h1,rfl⟩:=hv
   exact ⟨y',oa R m hl ht h1,rfl⟩
  ·cases g
 | .bool b,u,t,v',g,ht,hv=>by simp only [cR] at g;exact gP R m g ht hv
 | .int k n,u,t,v',g,ht,hv=>by simp only [cR] at g;exact gP R m g ht hv
 | .str k,u,t,v',g,ht,hv=>by simp only [cR] at g;exact gP R m g ht hv
 | .nl k,u,t,v',g,ht,hv=>by simp only [cR] at g;exact gP R m g ht hv
 | .ints k n xs,u,t,v',g,ht,hv=>by simp only [cR] at g;exact gP R m g ht hv
 | .ro f k xs,u,t,v',g,ht,hv=>by simp only [cR] at g;exact gP R m g ht hv
 | .gf f xs,u,t,v',g,ht,hv=>by simp only [cR] at g;exact gP R m g ht hv
 | .aJ f z len gg,u,t,v',g,ht,hv=>by simp only [cR] at g;exact gP R m g ht hv
 | .oF _ _ _,u,t,v',g,_,_=>by simp [cR] at g
 | .rE _ _ _,u,t,v',g,_,_=>by simp [cR] at g
 | .lX _ _ _ _ _ _ _,u,t,v',g,_,_=>by simp [cR] at g
 | .bC _,u,t,v',g,_,_=>by simp [cR] at g
 | .dU _ _,u,t,v',g,_,_=>by simp [cR] at g
 | .rows _ _ _,u,t,v',g,_,_=>by simp [cR] at g
 | .bK b z len cap ex,u,t,v',g,ht,hv=>by
  simp only [cR] at g
  split at g
  ·rename_i hb
   cases g
   rcases hv with hv|⟨p,c,a,h1,h2⟩
   ·exact .inl hv
   ·exact .inr ⟨p,c,a,tr b p hb h1,h2⟩
  ·exact gP R m g ht hv
 | .dm b z e o i,u,t,v',g,ht,hv=>by
  simp only [cR] at g
  split at g
  ·rename_i hb
   cases g
   obtain ⟨p,h1,h2⟩:=hv
   exact ⟨p,tr b p hb h1,h2⟩
  ·cases g
 | .qQ b,u,t,v',g,ht,hv=>by
  simp only [cR] at g
  split at g
  ·rename_i hb
   cases g
   obtain ⟨p,h1,h2⟩:=hv
   exact ⟨p,tr b p hb h1,h2⟩
  ·cases g
theorem lf (R:Rel B e h w) {is:List Nat} {T:Bool} (m:Nat):∀{vs us:List SV} {t:Bool} {ys:List Value},mB is (nA is h) vs=some (us,true,t)->(t=true->T=true)->LR e vs ys->LR (pG e is (zC e w is T) m) us ys
 | [],us,t,ys,g,_,hv=>by simp only [mB,No,aae] at g;obtain ⟨rfl,_⟩:=g;exact hv
 |x::xs,us,t,ys,g,ht,hv=>by
  simp only [mB] at g
  split at g
  ·rename_i y p a l q b hx hl
   simp only [No,aae,aC] at g
   obtain ⟨rfl,⟨rfl,rfl⟩,rfl⟩:=g
   obtain ⟨y',zs,h1,h2,rfl⟩:=hv
   exact ⟨y',zs,oa R m hx (λh=>ht (by rw [h];rfl)) h1,lf R m hl (λh=>ht (by rw [h];exact Bool.or_true _)) h2,rfl⟩
  ·cases g
theorem oc (R:Rel B e h w) {is:List Nat} {T:Bool} (m:Nat):∀{vs us:List SV} {t:Bool} {ys:List Value},mB is (nA is h) vs=some (us,true,t)->(t=true->T=true)->PR e vs ys->PR (pG e is (zC e w is T) m) us ys
 | [],us,t,ys,g,_,hv=>by simp only [mB,No,aae] at g;obtain ⟨rfl,_⟩:=g;exact hv
 |x::xs,us,t,ys,g,ht,hv=>by
  simp only [mB] at g
  split at g
  ·rename_i y p a l q b hx hl
   simp only [No,aae,aC] at g
   obtain ⟨rfl,⟨rfl,rfl⟩,rfl⟩:=g
   have ha:a=true->T=true:=λh=>ht (by rw [h];rfl)
   have hb:b=true->T=true:=λh=>ht (by rw [h];exact Bool.or_true _)
   by_cases hn:bn x=true
   ·obtain ⟨y',zs,h1,h2,rfl⟩:=(PR.cons hn).1 hv
    exact (PR.cons (yS hx hn)).2 ⟨y',zs,oa R m hx ha h1,oc R m hl hb h2,rfl⟩
   ·cases x<;>simp [bn] at hn
    case rows=>simp [cR] at hx
    simp only [cR,bB,No,aae] at hx
    obtain ⟨rfl,_⟩:=hx
    obtain ⟨zs,h2,rfl⟩:=hv
    exact ⟨zs,oc R m hl hb h2,rfl⟩
  ·cases g
end
def ir (is:List Nat) (j:Nat) (q:Nat):Nat:=match is[q]? with
 |some i=>i
 |none=>j+(q-is.length)
theorem DF (R:Rel B e h w) {is:List Nat} {l:List (List SV)} (s3:is.Nodup) (hl:lI h is=some l) (yT:∀ps∈l,dY is ps=true) {t:Bool} (Ga:t=true->∀ps∈l,kf ps=true):
  Rel ⟨w,pG e is (zC e w is t) (AK e w t),is.length,[]⟩ (pG e is (zC e w is t) (AK e w t)) (l.map λps=>.b (fM (λb=>is.idxOf b) ps)) w:=by
 obtain ⟨hlen,yO⟩:=j9 hl
 have hr:∀q p,(pG e is (zC e w is t) (AK e w t)).r q=some p->∃i,is[q]? =some i/\e.r i=some p:=λq p hq=>aaF.1 hq
 have hen:e.n0<=w.heap.size:=by have:=R.n0;have:=R.cI;have:=R.size;omega
 exact {
  os:=rfl,tape:=rfl,output:=rfl,size:=aaf _
  inj:=λi j p q hi hj hpq=>by
   obtain ⟨a,h1,h2⟩:=hr i p hi
   obtain ⟨b,h3,h4⟩:=hr j q hj
   have:=R.inj a b p q h2 h4 hpq
   subst this
   exact (List.getElem?_inj (aal.1 h1).1 s3).1 (h1.trans h3.symm)
  dom:=λi p hi=>by
   obtain ⟨a,h1,_⟩:=hr i p hi
   have:=(aal.1 h1).1
   simpa [hlen] using this
  sep:=λi p hi=>by
   obtain ⟨a,h1,h2⟩:=hr i p hi
   show zC e w is t p.n=none
   cases t with
   |false=>exact R.sep a p h2
   |true=>simp only [zC,pH.2 ⟨a,p,aaG h1,h2,rfl⟩]
  eU:=λn c ty fr hx=>by
   have hx':zC e w is t n=some (c,ty,fr):=hx
   cases t with
   |false=>exact R.eU n c ty fr hx'
   |true=>
    simp only [zC] at hx'
    split at hx'
    ·cases hx'
    ·exact qm hx'
  bp:=λ_ _ hx=>.inl hx,dU:=λg k xs hg=>(R.dU g k xs hg).imp λc ⟨ty,fr,h1,h2⟩=>⟨ty,fr,VD R h1,h2⟩,news:=λ_ _ hi=>.inl hi,bA:=λ_ _ hi=>hi,bM:=λ_ _ hx=>hx,n0:=rfl
  cI:=by show AK e w t<=w.heap.size;cases t<;>simp [AK,hen]
  ew:=λq ps hq=>by
   rw [aaO] at hq
   obtain ⟨Kr,h1,h2⟩:=aag.1 hq
   cases h2
   have hqi:q<is.length:=by have:=(aal.1 h1).1;omega
   obtain ⟨ps1,h3,h4⟩:=yO q _ (aai hqi)
   rw [h1] at h3;cases h3
   have wZ:(pG e is (zC e w is t) (AK e w t)).r q=e.r is[q]:=by
    show (is[q]?).bind e.r=_;rw [aai hqi];rfl
   have hmem:=aaG h1
   rcases R.ew _ Kr h4 with ⟨g1,g2⟩|⟨p,o,g1,g2,c,ty,rfl,g3,g4,g5⟩
   ·exact .inl ⟨by rw [b9];exact g1,by rw [wZ];exact g2⟩
   ·refine .inr ⟨p,_,by rw [wZ];exact g1,g2,c,ty,rfl,g3,by rw [b9];exact g4,?_⟩
    rw [b9]
    have up:∀b p,c6 b Kr=true->e.r b=some p->(pG e is (zC e w is t) (AK e w t)).r (is.idxOf b)=some p:=λb p hu hp=>by
     show (is[is.idxOf b]?).bind e.r=some p
     rw [w8 (by simpa using dJ (yT Kr hmem) hu)];exact hp
    cases t with
    |false=>exact PR.jm (e:=e) (e':=pG e is (zC e w is false) (AK e w false)) (λ_ _ h=>h) (aaf _) Kr _ up g5
    |true=>exact PR.lJ (e:=e) (e':=pG e is (zC e w is true) (AK e w true)) (Ga rfl Kr hmem) up g5
  gap:=λq g hq=>by
   rw [aaO] at hq
   obtain ⟨_,_,h2⟩:=aag.1 hq
   cases h2
  yi:=(λi j n hi=>by cases hi),yb:=(λi n hi=>by cases hi)
  old:=λ_ _ _ _=>rfl
  win:=λi p hi=>by
   obtain ⟨a,h1,h2⟩:=hr i p hi
   obtain ⟨c,ty,h1,_⟩:=R.eA h2
   exact ⟨_,_,h1,h1,c,c,ty,(0,0),rfl,rfl,rfl,λ_ _=>rfl⟩
  kr:=λi p hi=>by
   obtain ⟨a,h1,_⟩:=hr i p hi
   exact (aal.1 h1).1
  fO:=by simp [hlen]
  fc:=λr hr=>by cases hr
  gJ:=List.nodup_nil}
theorem yU {is:List Nat} {j q i:Nat} (h:is[q]? =some i):ir is j q=i:=by unfold ir;rw [h]
theorem Gb {is:List Nat} {j q:Nat} (h:is.length<=q):ir is j q=j+(q-is.length):=by unfold ir;rw [aaJ h]
end
end Go.Sy
namespace Go.Sy
open Go
def mC (is:List Nat) (j:Nat) (h h1:List Blk):List Blk:=eL h is ((h1.take is.length).map (DE (ir is j)))
def fW (is:List Nat) (j:Nat) (h1:List Blk):List Blk:=(h1.drop is.length).map (DE (ir is j))
section
variable {P:Program}
theorem yV {f:FuncId} {us:List SV} {v:SV} {is:List Nat} {l:List (List SV)} {h1:List Blk} (g:ai P f us (l.map λps=>.b (fM (λb=>is.idxOf b) ps)) v h1) {h:List Blk} {vs:List SV} {t:Bool}
  (s3:is.Nodup) (hl:lI h is=some l) (yT:∀ps∈l,dY is ps=true) (Ga:t=true->∀ps∈l,kf ps=true) (habs:mB is (nA is h) vs=some (us,true,t))
  (hst:t=true->eB v=false/\∀b∈h1,hY b=false)
  {B:cP} {e:Env} {w:World} {args:List Value} {j:Nat} (hla:LR e vs args) (R:Rel B e h w) (hj:jO h j (h1.length-is.length)):
  Calls P f ⟨args⟩ w λen w'=>∃v',en= .returned v'/\∃e2,VR e2 (jm (ir is j) v) v'/\Rel B e2 (bI (mC is j h h1) j (fW is j h1)) w'/\bW e e2 none:=by
 obtain ⟨hlen,yO⟩:=j9 hl
 have hal:=lf R (AK e w t) habs id hla
 have R0:=DF R s3 hl yT Ga
 refine (g _ _ w args (by simp [hlen]) hal R0).mono ?_
 rintro en w' ⟨v',rfl,e',_,hv,S⟩
 have hlt:∀{q i:Nat},is[q]? =some i->i<h.length:=λ{q i} hq=>by
  obtain ⟨ps,_,h4⟩:=yO q i hq
  exact (aal.1 h4).1
 have ag3:is.length<=h1.length:=S.fO
 have r0:∀q,(pG e is (zC e w is t) (AK e w t)).r q=(is[q]?).bind e.r:=λ_=>rfl
 -- the VF places
 have yP:∀q p,e'.r q=some p->(∃i,is[q]? =some i/\e.r i=some p)\/w.heap.size<=p.n:=λq p hq=>by
  rcases S.news q p hq with h|h
  ·exact .inl (aaF.1 h)
  ·exact .inr h
 have VG:∀{q i p},is[q]? =some i->e.r i=some p->e'.r q=some p:=λ{q i p} hq hp=>S.bA q p (by show (is[q]?).bind e.r=some p;rw [hq];exact hp)
 have qn:∀n,n<w.heap.size->(∀i p,i∈is->e.r i=some p->p.n≠n)->w'.heap[n]? =w.heap[n]? :=λn hn hno=>S.old n hn (λq p hq=>by
  obtain ⟨i,h1,h2⟩:=aaF.1 (show (is[q]?).bind e.r=some p from hq)
  exact hno i p (aaG h1) h2) (by simp)
 have B5:∀{q i p p'},e'.r q=some p->e.r i=some p'->i ∉ is->p.n≠p'.n:=λ{q i p p'} hq hi hni heq=>by
  rcases yP q p hq with ⟨a,h1,h2⟩|h
  ·have:=R.inj a i p p' h2 hi heq
   subst this
   exact hni (aaG h1)
  ·have:=R.lt hi;omega
 have hen:e.n0<=w.heap.size:=by have:=R.n0;have:=R.cI;have:=R.size;omega
 have hn0:e'.n0=AK e w t:=S.n0
 have hnn:e.n0<=AK e w t:=by cases t<;>simp [AK,hen]
 let nn:=h1.length-is.length
 let z2:Nat->Option (Array Value×TypeId×(Nat×Nat)):=λn=>if n<w.heap.size then e.z n else e'.z n
 let r2:Nat->Option Pl:=λi=>if is.contains i=true then e'.r (is.idxOf i) else if j<=i/\i<j+nn then e'.r (is.length+(i-j)) else e.r i
 let e2:Env:=⟨r2,z2,e.n0,e.m,e.y⟩
 have idx:∀{q i},is[q]? =some i->is.contains i=true/\is.idxOf i=q:=λ{q i} hq=>by
  have hm:=aaG hq
  refine ⟨by simpa using hm,?_⟩
  have h1:=List.idxOf_lt_length_of_mem hm
  have h2:is[is.idxOf i]? =some i:=by rw [aai h1];simp
  exact (List.getElem?_inj h1 s3).1 (h2.trans hq.symm)
 have Gc:∀i,j<=i/\i<j+nn->is.contains i=true->False:=λi hi hc=>by
  have hm:i∈is:=by simpa using hc
  obtain ⟨q,hq⟩:=aep.1 hm
  obtain ⟨ps,_,h4⟩:=yO q i hq
  rcases hj with rfl|hg
  ·have:=hlt hq;omega
  ·have:=hg (i-j) (by show i-j<h1.length-is.length;omega)
   rw [show j+(i-j)=i by omega,h4] at this;cases this
 have Ks:∀{q i},is[q]? =some i->r2 i=e'.r q:=λ{q i} hq=>by
  obtain ⟨h1,h2⟩:=idx hq
  show (if is.contains i=true then e'.r (is.idxOf i) else _)=_
  rw [aaM h1,h2]
 have Gd:∀{i},j<=i/\i<j+nn->r2 i=e'.r (is.length+(i-j)):=λ{i} hi=>by
  show (if is.contains i=true then e'.r (is.idxOf i) else _)=_
  rw [aaC (λhc=>Gc i hi hc),aaM hi]
 have B6:∀{i},is.contains i≠true->¬(j<=i/\i<j+nn)->r2 i=e.r i:=λ{i} h1 h2=>by
  show (if is.contains i=true then e'.r (is.idxOf i) else _)=_
  rw [aaC h1,aaC h2]
 have P4:∀{i p},e.r i=some p->¬(j<=i/\i<j+nn):=λ{i p} hp hi=>by
  rcases hj with rfl|hg
  ·have:=R.dom i p hp;omega
  ·have:=(R.gap i _ (by have:=hg (i-j) (by show i-j<h1.length-is.length;omega);rwa [show j+(i-j)=i by omega] at this)).1
   rw [hp] at this;cases this
 -- what a place is
 have tv:∀i p,r2 i=some p->(∃q,is[q]? =some i/\e'.r q=some p)\/((j<=i/\i<j+nn)/\e'.r (is.length+(i-j))=some p)\/(i ∉ is/\¬(j<=i/\i<j+nn)/\e.r i=some p):=λi p hp=>by
  by_cases hc:is.contains i=true
  ·obtain ⟨q,hq⟩:=aep.1 (show i∈is by simpa using hc)
   rw [Ks hq] at hp
   exact .inl ⟨q,hq,hp⟩
  ·by_cases hn:j<=i/\i<j+nn
   ·rw [Gd hn] at hp;exact .inr (.inl ⟨hn,hp⟩)
   ·rw [B6 hc hn] at hp;exact .inr (.inr ⟨by simpa using hc,hn,hp⟩)
 have up:∀i p,e.r i=some p->r2 i=some p:=λi p hp=>by
  by_cases hc:is.contains i=true
  ·obtain ⟨q,hq⟩:=aep.1 (show i∈is by simpa using hc)
   rw [Ks hq];exact VG hq hp
  ·rw [B6 hc (P4 hp)];exact hp
 have back:∀q p,e'.r q=some p->e2.r (ir is j q)=some p:=λq p hq=>by
  rcases acf q is.length with hlq|hlq
  ·have hi:is[q]? =some is[q]:=aai hlq
   rw [yU hi]
   show r2 is[q]=some p
   rw [Ks hi];exact hq
  ·rw [Gb hlq]
   have hd:=S.dom q p hq
   show r2 (j+(q-is.length))=some p
   rw [Gd ⟨by omega,by show _<j+(h1.length-is.length);omega⟩,show is.length+(j+(q-is.length)-j)=q by omega]
   exact hq
 have hle:Env.Le e e2:=⟨λi p hp=>up i p hp,λn x hx=>by
  show (if n<w.heap.size then e.z n else e'.z n)=some x
  rw [aaM (R.JQ hx)];exact hx,aaf _⟩
 let e1:Env:={e' with z:=z2}
 have zt:t=true->∀n x,e'.n0<=n->e'.z n=some x->z2 n=some x:=λht n x hn hx=>by
  show (if n<w.heap.size then e.z n else e'.z n)=some x
  rw [aaC (by rw [hn0,ht] at hn;simp only [AK] at hn;omega)];exact hx
 have zf:t=false->∀n x,e'.z n=some x->z2 n=some x:=λht n x hx=>by
  show (if n<w.heap.size then e.z n else e'.z n)=some x
  by_cases hn:n<w.heap.size
  ·rw [aaM hn]
   rcases S.bp n x hx with q|q
   ·have q':zC e w is t n=some x:=q
    rw [ht] at q';exact q'
   ·exact absurd q (by show ¬w.heap.size<=n;omega)
  ·rw [aaC hn];exact hx
 have F4:∀{u:SV} {u':Value},(t=true->eB u=false)->VR e' u u'->VR e1 u u':=λ{u u'} hs hu=>by
  by_cases ht:t=true
  ·exact VR.fresh (e:=e') (e':=e1) rfl (zt ht) (aaf _) (hs ht) hu
  ·exact VR.mono' (e:=e') (e':=e1) (zf (by simpa using ht)) (aaf _) u u' (λ_ _ _ h=>h) hu
 have F5:∀{u:List SV} {u':List Value},(t=true->hO u=false)->PR e' u u'->PR e1 u u':=λ{u u'} hs hu=>by
  by_cases ht:t=true
  ·exact PR.fresh (e:=e') (e':=e1) rfl (zt ht) (aaf _) (hs ht) hu
  ·exact PR.mono' (e:=e') (e':=e1) (zf (by simpa using ht)) (aaf _) u u' (λ_ _ _ h=>h) hu
 have yR:e2.n0<=e1.n0:=by show e.n0<=e'.n0;omega
 refine ⟨v',rfl,e2,VR.jm (e:=e1) (e':=e2) (λ_ _ h=>h) yR v v' (λq p _ hp=>back q p hp) (F4 (λht=>(hst ht).1) hv),?_,bW.of_le hle rfl _⟩
 have VH:(mC is j h h1).length=h.length:=nM
 have nI:(fW is j h1).length=nn:=by simp [fW,nn]
 have BS:jO (mC is j h h1) j (fW is j h1).length:=by
  rw [nI]
  rcases hj with hj|hg
  ·exact .inl (by rw [VH];exact hj)
  ·refine .inr λi hi=>?_
   unfold mC
   rw [m5 (λhm=>Gc (j+i) ⟨by omega,by omega⟩ (by simpa using hm))]
   exact hg i hi
 -- what a block is
 have Ok:∀(q i:Nat),(is[q]? =some i\/(is.length<=q/\(j<=i/\i<j+nn)/\q=is.length+(i-j)))->e2.r i=e'.r q/\(∀qs,h1[q]? =some (.b qs)->(av (fM (ir is j) qs)=0/\e2.r i=none)\/∃p o,e2.r i=some p/\w'.heap[p.n]? =some o/\BR e2 p (fM (ir is j) qs) o)/\(∀g,h1[q]? =some (.g g)->e2.r i=none):=λq i hqi=>by
  have wZ:e2.r i=e'.r q:=by
   rcases hqi with hq|⟨_,hq,rfl⟩
   ·exact Ks hq
   ·exact Gd hq
  refine ⟨wZ,λqs hq=>?_,λg hq=>by rw [wZ];exact (S.gap q g hq).1⟩
  rcases S.ew q qs hq with ⟨g1,g2⟩|⟨p,o,g1,g2,c,ty,rfl,g3,g4,g5⟩
  ·exact .inl ⟨by rw [b9];exact g1,by rw [wZ];exact g2⟩
  ·refine .inr ⟨p,_,by rw [wZ];exact g1,g2,c,ty,rfl,g3,by rw [b9];exact g4,?_⟩
   rw [b9]
   exact PR.jm (e:=e1) (e':=e2) (λ_ _ h=>h) yR qs _ (λb p _ hp=>back b p hp) (F5 (λht=>(hst ht).2 _ (aaG hq)) g5)
 have VI:∀(i:Nat) (b:Blk),(bI (mC is j h h1) j (fW is j h1))[i]? =some b->(∃q c,(is[q]? =some i\/(is.length<=q/\(j<=i/\i<j+nn)/\q=is.length+(i-j)))/\h1[q]? =some c/\b=DE (ir is j) c)\/(i ∉ is/\¬(j<=i/\i<j+nn)/\h[i]? =some b):=λi b hi=>by
  rw [ld BS,nI] at hi
  split at hi
  ·rename_i hc
   simp only [fW,aaO,aaQ] at hi
   obtain ⟨c,h2,h3⟩:=aag.1 hi
   exact .inl ⟨is.length+(i-j),c,.inr ⟨by omega,hc,rfl⟩,h2,h3.symm⟩
  ·rename_i hc
   by_cases hm:i∈is
   ·obtain ⟨q,hq⟩:=aep.1 hm
    have hql:=(aal.1 hq).1
    unfold mC at hi
    rw [tq s3 hq (hlt hq) (by simp;omega),aaO,aa9 hql] at hi
    obtain ⟨c,h2,h3⟩:=aag.1 hi
    exact .inl ⟨q,c,.inl hq,h2,h3.symm⟩
   ·unfold mC at hi
    rw [m5 hm] at hi
    exact .inr ⟨hm,hc,hi⟩
 exact {
  os:=S.os.trans R.os,tape:=S.tape.trans R.tape,output:=S.output.trans R.output,size:=abi R.size S.size
  inj:=λi i' p q hi hi' hpq=>by
   rcases tv i p hi with ⟨a,h2,h3⟩|⟨h2,h3⟩|⟨h2,h4,h3⟩<;>rcases tv i' q hi' with ⟨b,g2,g3⟩|⟨g2,g3⟩|⟨g2,g4,g3⟩
   ·have:=S.inj _ _ p q h3 g3 hpq
    subst this
    rw [h2] at g2;cases g2;rfl
   ·have:=S.inj _ _ p q h3 g3 hpq
    have:=(aal.1 h2).1
    omega
   ·exact absurd hpq (B5 h3 g3 g2)
   ·have:=S.inj _ _ p q h3 g3 hpq
    have:=(aal.1 g2).1
    omega
   ·have:=S.inj _ _ p q h3 g3 hpq
    omega
   ·exact absurd hpq (B5 h3 g3 g2)
   ·exact absurd hpq.symm (B5 g3 h3 h2)
   ·exact absurd hpq.symm (B5 g3 h3 h2)
   ·exact R.inj _ _ p q h3 g3 hpq
  dom:=λi p hi=>by
   rcases tv i p hi with ⟨a,h2,h3⟩|⟨h2,h3⟩|⟨h2,h4,h3⟩
   ·exact Nat.lt_of_lt_of_le (by rw [VH];exact hlt h2) fe
   ·have:=vD BS (i:=i-j) (by rw [nI];omega)
    rwa [show j+(i-j)=i by omega] at this
   ·exact Nat.lt_of_lt_of_le (by rw [VH];exact R.dom i p h3) fe
  sep:=λi p hi=>by
   have key:∀q,e'.r q=some p->z2 p.n=none:=λq hq=>by
    show (if p.n<w.heap.size then e.z p.n else e'.z p.n)=none
    split
    ·rename_i hlp
     rcases yP q p hq with ⟨a,_,h2⟩|h
     ·exact R.sep a p h2
     ·omega
    ·exact S.sep q p hq
   rcases tv i p hi with ⟨a,h2,h3⟩|⟨h2,h3⟩|⟨h2,h4,h3⟩
   ·exact key _ h3
   ·exact key _ h3
   ·show (if p.n<w.heap.size then e.z p.n else e'.z p.n)=none
    rw [aaM (R.lt h3)];exact R.sep i p h3
  eU:=λn c ty fr hx=>by
   have hx':(if n<w.heap.size then e.z n else e'.z n)=some (c,ty,fr):=hx
   split at hx'
   ·rename_i hn
    rw [qn n hn (λi p hi hp Ge=>by subst Ge;rw [R.sep i p hp] at hx';cases hx')]
    exact R.eU n c ty fr hx'
   ·exact S.eU n c ty fr hx'
  bp:=λn x hx=>by
   have hx':(if n<w.heap.size then e.z n else e'.z n)=some x:=hx
   split at hx'
   ·exact R.bp n x hx'
   ·exact .inr (by have:=R.size;omega)
  dU:=λg k xs hg=>(R.dU g k xs hg).imp λc ⟨ty,fr,h1,h2⟩=>⟨ty,fr,hle.z _ _ h1,h2⟩
  news:=λi p hi=>by
   have key:∀q,e'.r q=some p->(∀a,is[q]? =some a->a=i)->B.e.r i=some p\/B.w.heap.size<=p.n:=λq hq ha=>by
    rcases yP q p hq with ⟨a,h1,h2⟩|h
    ·have:=ha a h1;subst this;exact R.news _ p h2
    ·exact .inr (abi R.size h)
   rcases tv i p hi with ⟨a,h2,h3⟩|⟨h2,h3⟩|⟨h2,h4,h3⟩
   ·exact key a h3 λb hb=>by rw [h2] at hb;cases hb;rfl
   ·exact key _ h3 λb hb=>by have:=(aal.1 hb).1;omega
   ·exact R.news i p h3
  bA:=λi p hi=>up i p (R.bA i p hi)
  bM:=λn x hx=>hle.z n x (R.bM n x hx)
  n0:=R.n0,cI:=R.cI
  ew:=λi ps hi=>by
   rcases VI i _ hi with ⟨q,c,hq,hc,hb⟩|⟨hni,P5,hb⟩
   ·cases c with
    |g _=>cases hb
    |b qs=>
     simp only [DE,Blk.b.injEq] at hb
     subst hb
     exact (Ok q i hq).2.1 qs hc
   ·have wZ:e2.r i=e.r i:=B6 (by simpa using hni) P5
    rcases R.ew i ps hb with ⟨g1,g2⟩|⟨p,o,g1,g2,g3⟩
    ·exact .inl ⟨g1,by rw [wZ];exact g2⟩
    ·refine .inr ⟨p,o,by rw [wZ];exact g1,?_,g3.mono hle⟩
     rw [qn p.n (R.lt g1) (λa p' ha hp' Ge=>hni (by have:=R.inj a i p' p hp' g1 Ge;subst this;exact ha))]
     exact g2
  gap:=λi g hi=>by
   rcases VI i _ hi with ⟨q,c,hq,hc,hb⟩|⟨hni,P5,hb⟩
   ·cases c with
    |b qs=>cases hb
    |g g'=>
     simp only [DE,Blk.g.injEq] at hb
     subst hb
     exact ⟨(Ok q i hq).2.2 _ hc,trivial⟩
   ·refine ⟨?_,(R.gap i g hb).2.le (λn o hn=>?_) rfl hle⟩
    ·show r2 i=none
     rw [B6 (by simpa using hni) P5];exact (R.gap i g hb).1
    ·rw [qn n (aav.1 hn).1 (λi p _ hp Ge=>by
      subst Ge
      obtain ⟨c,ty,hc,_⟩:=R.eA hp
      rw [hc] at hn;cases hn)]
     exact hn
  yi:=R.yi,yb:=R.yb
  old:=λn hn hno nI=>by
   rw [qn n (by have:=R.size;omega) (λi p hi hp Ge=>by
    rcases R.news i p hp with q|q
    ·exact hno i p q Ge
    ·omega)]
   exact R.old n hn hno nI
  win:=λi p hi=>by
   obtain ⟨o,o',g1,g2,g3⟩:=R.win i p hi
   have hp:=R.bA i p hi
   by_cases hm:i∈is
   ·obtain ⟨q,hq⟩:=aep.1 hm
    obtain ⟨x,x',k1,k2,k3⟩:=S.win q p (by show (is[q]?).bind e.r=some p;rw [hq];exact hp)
    have k1':w.heap[p.n]? =some x:=k1
    rw [g2] at k1';cases k1'
    exact ⟨o,x',g1,k2,g3.trans k3⟩
   ·exact ⟨o,o',g1,by rw [qn p.n (R.lt hp) (λa p' ha hp' Ge=>hm (by have:=R.inj a i p' p hp' hp Ge;subst this;exact ha))];exact g2,g3⟩
  kr:=R.kr
  fO:=by have:=R.fO;have:=fe (h:=mC is j h h1) (j:=j) (new:=fW is j h1);omega
  fc:=λr hr=>by
   have hm:=R.fc r hr
   rw [qn r (aav.1 hm.1).1 (λi p _ hp Ge=>by
    subst Ge
    obtain ⟨c,ty,hc,_⟩:=R.eA hp
    have h9:=hm.1
    rw [hc] at h9;cases h9)]
   exact hm
  gJ:=R.gJ}
def Entry.mut (f:FuncId) (fn:Func) (hf:P.funcs[f]? =some fn) (hn:(fn.name != "runtime.NumGoroutine")=true) (hb:fn.body.isSome=true) (pick:List SV->List Blk->List Nat) (nb:Nat) (F:List SV->List Blk->Option (SV×List Blk×Bool))
  (ok:∀us h0 v h1,F us h0=some (v,h1,true)->ai P f us h0 v h1):Entry P where
 f:=f
 g:=λvs h j=>match lI h (pick vs h),mB (pick vs h) (nA (pick vs h) h) vs with
  |some l,some (us,p,t)=>match decide (pick vs h).Nodup&&l.all (dY (pick vs h))&&(!t||l.all kf) with
   |true=>match F us (l.map λps=>.b (fM (λb=>(pick vs h).idxOf b) ps)) with
    |some (v,h1,q)=>match t&&(eB v||h1.any hY) with
     |true=>none
     |false=>some (jm (ir (pick vs h) j) v,mC (pick vs h) j h h1,fW (pick vs h) j h1,aa p q)
    |none=>none
   |false=>none
  |_,_=>none
 pf:=2
 nb:=nb
 ok:=by
  intro vs h j v h' new g B e w args hla R hj
  generalize hpk:pick vs h=is at g
  split at g
  ·rename_i l us p t hl habs
   split at g
   ·rename_i hc
    simp only [aac,aab,aah] at hc
    obtain ⟨⟨s3,yT⟩,Ga⟩:=hc
    split at g
    ·rename_i u h1 q hF
     split at g
     ·cases g
     ·rename_i hs
      simp only [No,aae,aC] at g
      obtain ⟨rfl,rfl,rfl,rfl,rfl⟩:=g
      have JT:fn.body≠none:=λq=>by rw [q] at hb;cases hb
      refine .inr ⟨eK hf (by simpa using hn) JT _ w,?_⟩
      refine yV (ok us _ u h1 hF) s3 hl yT (λht ps hps=>?_) habs (λht=>?_) hla R (by simpa [fW] using hj)
      ·rw [ht] at Ga
       simp only [Bool.not_true,Bool.false_or,aah] at Ga
       exact Ga ps hps
      ·rw [ht,abb,adZ] at hs
       refine ⟨hs.1,λb hb=>?_⟩
       cases hq:hY b with
       |false=>rfl
       |true=>
        have:h1.any hY=true:=aaT.2 ⟨b,hb,hq⟩
        rw [this] at hs;cases hs.2
    ·cases g
   ·cases g
  ·cases g
 pu:=⟨(λh=>by cases h),(λh=>by cases h)⟩
theorem mD {is:List Nat} {j:Nat}:∀{b:Nat},is.contains b=true->ir is j (is.idxOf b)=b:=λhb=>yU (w8 hb)
mutual
theorem vH {is:List Nat} {j:Nat}:∀{v:SV},cC is v=true->jm (ir is j) (jm (λb=>is.idxOf b) v)=v
 | .ptr b o i,h=>by simp only [cC] at h;simp only [jm,mD h]
 | .sl b o i z len cap ex wh,h=>by simp only [cC] at h;simp only [jm,mD h]
 | .agg ps,h=>by simp only [cC] at h;simp only [jm,gA h]
 | .bC ps,h=>by simp only [cC] at h;simp only [jm,gA h]
 | .iface t x,h=>by simp only [cC] at h;simp only [jm,vH h]
 | .fn f a b,h=>by simp only [cC,aac] at h;simp only [jm,gA h.1,gA h.2]
 | .bool _,_=>rfl
 | .int _ _,_=>rfl
 | .str _,_=>rfl
 | .nl _,_=>rfl
 | .ints _ _ _,_=>rfl
 | .ro _ _ _,_=>rfl
 | .gf _ _,_=>rfl
 | .aJ _ _ _ _,_=>rfl
 | .oF _ _ _,_=>rfl
 | .rE _ _ _,_=>rfl
 | .lX _ _ _ _ _ _ _,_=>rfl
 | .rows _ _ _,_=>rfl
 | .bK b _ _ _ _,h=>by simp only [cC] at h;simp only [jm,mD h]
 | .dm b _ _ _ _,h=>by simp only [cC] at h;simp only [jm,mD h]
 | .qQ b,h=>by simp only [cC] at h;simp only [jm,mD h]
 | .dU _ _,_=>rfl
theorem gA {is:List Nat} {j:Nat}:∀{vs:List SV},dY is vs=true->fM (ir is j) (fM (λb=>is.idxOf b) vs)=vs
 | [],_=>rfl
 |x::xs,h=>by
  simp only [dY,aac] at h
  simp only [fM,vH h.1,gA h.2]
end
theorem q9:∀{h:List Blk} {is:List Nat} {bs:List Blk},(∀(q i:Nat),is[q]? =some i->bs[q]? =h[i]?)->is.Nodup->eL h is bs=h
 |_,[],_,_,_=>by simp [eL]
 |_,_::_,[],_,_=>by simp [eL]
 |h,a::is,b::bs,hq,hn=>by
  simp only [eL]
  have h0:h[a]? =some b:=(hq 0 a rfl).symm
  have hs:h.set a b=h:=by
   apply abf
   intro x
   by_cases hx:a=x
   ·subst hx;rw [aay (aal.1 h0).1,h0]
   ·rw [aau hx]
  rw [hs]
  exact q9 (λq i hi=>by simpa using hq (q+1) i (by simpa using hi)) (List.nodup_cons.1 hn).2
theorem Kt {is:List Nat} {h h2:List Blk} (hle:Dy h h2):Dy (nA is h) (nA is h2):=λi ps hi=>by
 rw [pF] at hi ⊢
 cases hb:h[i]? with
 |none=>rw [hb] at hi;simp at hi
 |some b=>
  rw [hb] at hi
  cases b with
  |g o=>cases hc:is.contains i<;>rw [hc] at hi<;>simp at hi
  |b qs=>rw [hle i qs hb];exact hi
mutual
theorem B7 {is:List Nat} {h h2:List Blk} (hle:Dy h h2):∀{v:SV} {q:SV×Bool×Bool},cR is h v=some q->cR is h2 v=some q
 | .ptr _ _ _,q,g=>by simp only [cR] at g ⊢;exact g
 | .sl b o i z len cap ex wh,q,g=>by
  simp only [cR] at g ⊢
  split
  ·rename_i hc;rw [aaM hc] at g;exact g
  ·rename_i hc;rw [aaC hc] at g;exact fm hle g
 | .fn f a b,q,g=>by
  simp only [cR] at g ⊢
  split at g
  ·rename_i x p s y q' t ha hb;rw [pI hle ha,pI hle hb];exact g
  ·cases g
 | .agg ps,q,g=>by
  simp only [cR] at g ⊢
  split at g
  ·rename_i l p t hl;rw [pI hle hl];exact g
  ·cases g
 | .iface ty x,q,g=>by
  simp only [cR] at g ⊢
  split at g
  ·rename_i y p t hl;rw [B7 hle hl];exact g
  ·cases g
 | .bool _,q,g=>by simp only [cR] at g ⊢;exact fm hle g
 | .int _ _,q,g=>by simp only [cR] at g ⊢;exact fm hle g
 | .str _,q,g=>by simp only [cR] at g ⊢;exact fm hle g
 | .nl _,q,g=>by simp only [cR] at g ⊢;exact fm hle g
 | .ints _ _ _,q,g=>by simp only [cR] at g ⊢;exact fm hle g
 | .ro _ _ _,q,g=>by simp only [cR] at g ⊢;exact fm hle g
 | .gf _ _,q,g=>by simp only [cR] at g ⊢;exact fm hle g
 | .aJ _ _ _ _,q,g=>by simp only [cR] at g ⊢;exact fm hle g
 | .oF _ _ _,q,g=>by simp [cR] at g
 | .rE _ _ _,q,g=>by simp [cR] at g
 | .lX _ _ _ _ _ _ _,q,g=>by simp [cR] at g
 | .bC _,q,g=>by simp [cR] at g
 | .rows _ _ _,q,g=>by simp [cR] at g
 | .bK b z len cap ex,q,g=>by
  simp only [cR] at g ⊢
  split
  ·rename_i hc;rw [aaM hc] at g;exact g
  ·rename_i hc;rw [aaC hc] at g;exact fm hle g
 | .dm b z e o i,q,g=>by simp only [cR] at g ⊢;exact g
 | .qQ b,q,g=>by simp only [cR] at g ⊢;exact g
 | .dU _ _,q,g=>by simp [cR] at g
theorem pI {is:List Nat} {h h2:List Blk} (hle:Dy h h2):∀{v:List SV} {q:List SV×Bool×Bool},mB is h v=some q->mB is h2 v=some q
 | [],q,g=>by simp only [mB] at g ⊢;exact g
 |x::xs,q,g=>by
  simp only [mB] at g ⊢
  split at g
  ·rename_i y p a l q' b hx hl
   rw [B7 hle hx,pI hle hl];exact g
  ·cases g
end
theorem yW {h h2:List Blk} (hle:Dy h h2):∀{is:List Nat} {l:List (List SV)},lI h is=some l->lI h2 is=some l
 | [],l,g=>g
 |i::is,l,g=>by
  simp only [lI] at g ⊢
  split at g
  ·rename_i ps l' h1 Dz
   rw [hle i ps h1,yW hle Dz];exact g
  ·cases g
def Entry.rdm (f:FuncId) (fn:Func) (hf:P.funcs[f]? =some fn) (hn:(fn.name != "runtime.NumGoroutine")=true) (hb:fn.body.isSome=true) (pick:List SV->List Nat) (F:List SV->List Blk->Option (SV×Bool))
  (ok:∀us h0 v,F us h0=some (v,true)->ai P f us h0 v h0):Entry P where
 f:=f
 g:=λvs h j=>match lI h (pick vs),mB (pick vs) (nA (pick vs) h) vs with
  |some l,some (us,p,t)=>match decide (pick vs).Nodup&&l.all (dY (pick vs))&&(!t||l.all kf) with
   |true=>match F us (l.map λps=>.b (fM (λb=>(pick vs).idxOf b) ps)) with
    |some (v,q)=>match t&&(eB v||(l.map λps=>Blk.b (fM (λb=>(pick vs).idxOf b) ps)).any hY) with
     |true=>none
     |false=>some (jm (ir (pick vs) j) v,h,[],aa p q)
    |none=>none
   |false=>none
  |_,_=>none
 pf:=1
 nb:=0
 ok:=by
  intro vs h j v h' new g B e w args hla R hj
  generalize hpk:pick vs=is at g
  split at g
  ·rename_i l us p t hl habs
   split at g
   ·rename_i hc
    simp only [aac,aab,aah] at hc
    obtain ⟨⟨s3,yT⟩,Ga⟩:=hc
    split at g
    ·rename_i u q hF
     split at g
     ·cases g
     ·rename_i hs
      simp only [No,aae,aC] at g
      obtain ⟨rfl,rfl,rfl,rfl,rfl⟩:=g
      have JT:fn.body≠none:=λq=>by rw [q] at hb;cases hb
      obtain ⟨hlen,yO⟩:=j9 hl
      refine .inr ⟨eK hf (by simpa using hn) JT _ w,?_⟩
      have hnw:fW is j (l.map λps=>.b (fM (λb=>is.idxOf b) ps))=[]:=by
       unfold fW
       rw [adB (by simp [hlen])];rfl
      have hbk:mC is j h (l.map λps=>.b (fM (λb=>is.idxOf b) ps))=h:=by
       unfold mC
       refine q9 (λq i hi=>?_) s3
       obtain ⟨ps,h1,h2⟩:=yO q i hi
       have hq:q<is.length:=(aal.1 hi).1
       rw [aaO,aa9 hq,aaO,h1,h2]
       simp only [aaH,DE,No,Blk.b.injEq]
       exact gA (yT ps (aaG h1))
      refine (yV (j:=j) (ok us _ u hF) s3 hl yT (λht ps hps=>?_) habs (λht=>?_) hla R ?_).mono ?_
      ·rw [ht] at Ga
       simp only [Bool.not_true,Bool.false_or,aah] at Ga
       exact Ga ps hps
      ·rw [ht,abb,adZ] at hs
       refine ⟨hs.1,λb hb=>?_⟩
       cases hq:hY b with
       |false=>rfl
       |true=>
        have:(l.map λps=>Blk.b (fM (λb=>is.idxOf b) ps)).any hY=true:=aaT.2 ⟨b,hb,hq⟩
        rw [this] at hs;cases hs.2
      ·simpa [hlen] using hj
      ·rintro en w' ⟨v',rfl,e2,h1,h2,h3⟩
       rw [hbk,hnw] at h2
       exact ⟨v',rfl,e2,h1,h2,h3⟩
    ·cases g
   ·cases g
  ·cases g
 pu:=by
  refine ⟨(λh=>by cases h),λ_ vs h j v h' new p g=>?_⟩
  split at g
  ·rename_i l us p1 t hl habs
   split at g
   ·rename_i hc
    split at g
    ·rename_i u q hF
     split at g
     ·cases g
     ·rename_i hs
      simp only [No,aae] at g
      obtain ⟨rfl,rfl,rfl,rfl⟩:=g
      refine ⟨rfl,λh2 hle=>?_⟩
      rw [yW hle hl,pI (Kt hle) habs]
      simp only
      rw [hc];simp only;rw [hF];simp only;rw [hs]
    ·cases g
   ·cases g
  ·cases g
end
end Go.Sy
namespace Go.Sy
open Go
theorem PE.cG (k:IntKind) (n:Nat) (l:List Int):PE [.ints k n l] [.ints k n (cG n l)]:=⟨rfl,λe xs ⟨zs,h1,h2⟩=>⟨zs,h1,by rw [h2,Fb]⟩⟩
theorem VE.agg {ps qs:List SV} (h:PE ps qs):VE (.agg ps) (.agg qs):=λe _ ⟨ys,h1,h2⟩=>⟨ys,h.2 e ys h1,h2⟩
theorem VE.refl (v:SV):VE v v:=λ_ _ h=>h
theorem PE.refl (ps:List SV):PE ps ps:=⟨rfl,λ_ _ h=>h⟩
def P6:List SV->List SV->Prop
 | [],[]=>True
 |x::xs,y::ys=>VE x y/\P6 xs ys
 |_,_=>False
theorem P6.get:∀{xs ys:List SV},P6 xs ys->xs.length=ys.length/\∀(i:Nat) (y:SV),ys[i]? =some y->∃x,xs[i]? =some x/\VE x y
 | [],[],_=>⟨rfl,λi y h=>by simp at h⟩
 | [],_::_,h=>h.elim
 |_::_,[],h=>h.elim
 |x::xs,y::ys,⟨h1,h2⟩=>by
  obtain ⟨h3,h4⟩:=P6.get h2
  refine ⟨by simp [h3],λi z hi=>?_⟩
  cases i with
  |zero=>simp at hi;subst hi;exact ⟨x,rfl,h1⟩
  |succ i=>simp at hi;obtain ⟨u,h5,h6⟩:=h4 i z hi;exact ⟨u,by simpa using h5,h6⟩
def B8:List Blk->List Blk->Prop
 | [],[]=>True
 | .b ps::xs,.b qs::ys=>PE ps qs/\B8 xs ys
 | .g a::xs,.g b::ys=>a=b/\B8 xs ys
 |_,_=>False
theorem B8.get:∀{xs ys:List Blk},B8 xs ys->xs.length=ys.length/\(∀(i:Nat) (qs:List SV),ys[i]? =some (.b qs)->∃ps,xs[i]? =some (.b ps)/\PE ps qs)/\(∀(i:Nat) (g:Option Lp),ys[i]? =some (.g g)->xs[i]? =some (.g g))
 | [],[],_=>⟨rfl,(λi y h=>by simp at h),λi g h=>by simp at h⟩
 | .b ps::xs,.b qs::ys,⟨h1,h2⟩=>by
  obtain ⟨h3,h4,h5⟩:=B8.get h2
  refine ⟨by simp [h3],λi z hi=>?_,λi g hi=>?_⟩
  ·cases i with
   |zero=>simp at hi;subst hi;exact ⟨ps,rfl,h1⟩
   |succ i=>simp at hi;obtain ⟨u,h5,h6⟩:=h4 i z hi;exact ⟨u,by simpa using h5,h6⟩
  ·cases i with
   |zero=>simp at hi
   |succ i=>simp at hi;simpa using h5 i g hi
 | .g a::xs,.g b::ys,⟨h1,h2⟩=>by
  subst h1
  obtain ⟨h3,h4,h5⟩:=B8.get (xs:=xs) (ys:=ys) h2
  refine ⟨by simp [h3],λi z hi=>?_,λi g hi=>?_⟩
  ·cases i with
   |zero=>simp at hi
   |succ i=>simp at hi;obtain ⟨u,h5,h6⟩:=h4 i z hi;exact ⟨u,by simpa using h5,h6⟩
  ·cases i with
   |zero=>simp at hi ⊢;exact hi
   |succ i=>simp at hi;simpa using h5 i g hi
 | [],_::_,h=>by simp [B8] at h
 |_::_,[],h=>by simp [B8] at h
 | .b _::_,.g _::_,h=>by simp [B8] at h
 | .g _::_,.b _::_,h=>by simp [B8] at h
theorem bE.vc {k:Nat} {t:List (Option SV)} {h h':List Blk} {o o':Bool} (g:B8 h h'):bE k ⟨t,h,o⟩ ⟨t,h',o'⟩:=by
 obtain ⟨h1,h2,h3⟩:=g.get
 exact bE.mono rfl (λi v' hi=>⟨v',hi,VE.refl _⟩) h1.symm h2 h3
theorem bE.all {k:Nat} {as bs:List SV} {h h':List Blk} {o o':Bool} (ga:P6 as bs) (g:B8 h h'):bE k ⟨as.map some,h,o⟩ ⟨bs.map some,h',o'⟩:=by
 obtain ⟨h1,h2,h3⟩:=g.get
 obtain ⟨g1,g2⟩:=ga.get
 refine bE.mono (by simp [g1]) (λi v' hi=>?_) h1.symm h2 h3
 rw [aaO] at hi
 obtain ⟨y,hy,q⟩:=aag.1 hi
 cases q
 obtain ⟨x,hx,hv⟩:=g2 i v' hy
 exact ⟨x,by simp [hx],hv⟩
section
variable {P:Program}
theorem aI {Γ:bO} (hΓ:ak P Γ) (n:Nat) {f:FuncId} {fn:Func} (hf:P.funcs[f]? =some fn) {args:List SV} {v:SV} {p:Bool} (e:(aG P Γ n fn args []).map (λx=>(x.1,x.2.2))=some (v,p)) (hp:p=true) (hr:cC [] v=true):ai P f args [] v []:=by
 obtain ⟨⟨u,h1,q⟩,he,e⟩:=aag.1 e
 simp only [aae] at e
 obtain ⟨rfl,rfl⟩:=e
 subst hp
 have key:∀u:SV,jm (λb=>([]:List Nat).idxOf b) u=u\/True:=λ_=>.inr trivial
 refine (ai.bg hΓ hf he).post (bE.trans (bE.dn (n:=0) (s':=⟨[some u],[],true⟩) (aaf _) ?_) (bE.refl _ _))
 unfold St.dn
 rw [aaM]
 ·rfl
 ·simp only [List.range_zero,List.all_cons,List.all_nil,Bool.and_true,List.take_zero,hr]
theorem lK {Γ:bO} (hΓ:ak P Γ) (n:Nat) {f:FuncId} {fn:Func} (hf:P.funcs[f]? =some fn) {args:List SV} {h h1:List Blk} {v:SV} {p:Bool} (m:Nat) (hm:h.length<=m)
  (e:(aG P Γ n fn args h).map (λx=>(x.1,x.2.1.take m,x.2.2))=some (v,h1,p)) (hp:p=true) (hr:cC (List.range m) v=true) (hb:h1.all (F8 m)=true):ai P f args h v h1:=by
 obtain ⟨⟨u,h2,q⟩,he,e⟩:=aag.1 e
 simp only [aae] at e
 obtain ⟨rfl,rfl,rfl⟩:=e
 subst hp
 refine (ai.bg hΓ hf he).post (bE.dn (n:=m) hm ?_)
 unfold St.dn
 rw [aaM]
 simp only [List.all_cons,List.all_nil,Bool.and_true,hr,hb]
theorem ai.conv {f:FuncId} {as bs:List SV} {h h2 h1 h3:List Blk} {v u:SV} (g:ai P f bs h2 v h1) (ga:P6 as bs) (gh:B8 h h2) (gv:VE v u) (gh':B8 h1 h3):ai P f as h u h3:=by
 have hlen:=gh.get.1
 refine (ai.pre g hlen (bE.all ga gh)).post ?_
 exact bE.all (as:=[v]) (bs:=[u]) ⟨gv,trivial⟩ gh'
theorem ai.mE {Γ:bO} (hΓ:ak P Γ) (n m j:Nat) {f:FuncId} {fn:Func} (hf:P.funcs[f]? =some fn) {args:List SV} {h h':List Blk} {s:St} {v:SV} {p:Bool} (hj:h.length<=j) (hb:fn.body.isSome=true)
  (ht:∀s' x,aV P none h.length ((atoms (aP fn)).drop m) s x s'->aV P none h.length (atoms (aP fn)) ⟨aD fn.ntmps args,h,true⟩ x s')
  (e:((cn P Γ n h.length ((atoms (aP fn)).drop m) s).bind λr=>match r.1 with
   | .ret| .normal=>(iD P r.2.t r.2.h fn.results.toList).map λq=>(oneOf q.1,r.2.h.take j,aa r.2.ob q.2)
   |_=>none)=some (v,h',p)) (hp:p=true) (hr:cC (List.range j) v=true) (VH:h'.all (F8 j)=true):ai P f args h v h':=by
 obtain ⟨⟨x,s'⟩,h1,e⟩:=aaF.1 e
 subst hp
 have key:∀(_:x= .ret\/x= .normal),((iD P s'.t s'.h fn.results.toList).map λq=>(oneOf q.1,s'.h.take j,aa s'.ob q.2))=some (v,h',true)->ai P f args h v h':=λhx e=>by
  obtain ⟨⟨vs,q⟩,hres,e⟩:=aag.1 e
  simp only [aae,aC] at e
  obtain ⟨rfl,rfl,cA,rfl⟩:=e
  refine (ai.mk hf hb (ht s' x (aV.rest hΓ n h1 cA)) hx hres).post (bE.dn (n:=j) hj ?_)
  unfold St.dn
  rw [aaM]
  simp only [List.all_cons,List.all_nil,Bool.and_true,hr,VH]
 cases x<;>simp only at e<;>first|exact key (by simp) e|cases e
end
end Go.Sy
namespace Go.Sy
open Go
section
variable {P:Program} {B:cP} {e:Env} {h:List Blk} {w:World}
def Env.enter (e:Env) (h:List Blk) (n:Nat):Env:={e with m:=n::e.m,y:=λi=>if i=h.length then some (n+1) else match oL h i with|some _=>e.y i|none=>none}
theorem tw (e:Env) (h:List Blk) (n:Nat):Env.Le e (e.enter h n):=⟨λ_ _ h=>h,λ_ _ h=>h,aaf _⟩
theorem Ku {i n:Nat} {L:Lp} (g:h[i]? =some (.g (some L))):(e.enter h n).y i=e.y i:=by
 show (if i=h.length then some (n+1) else match oL h i with|some _=>e.y i|none=>none)=e.y i
 rw [aaC (by have:=(aal.1 g).1;omega),B4 g]
theorem tC (R:Rel B e h w) {i n m:Nat} (g:(e.enter h n).y i=some m):(i=h.length/\m=n+1)\/(i<h.length/\e.y i=some m/\m<w.heap.size):=by
 have g':(if i=h.length then some (n+1) else match oL h i with|some _=>e.y i|none=>none)=some m:=g
 split at g'
 ·rename_i hi;cases g';exact .inl ⟨hi,rfl⟩
 ·split at g'
  ·rename_i L hL
   have hL:=o8 hL
   obtain ⟨_,h1,r,h2,_⟩:=R.gap i _ hL
   rw [g'] at h1;cases h1
   exact .inr ⟨(aal.1 hL).1,g',(aav.1 h2).1⟩
  ·cases g'
theorem Rel.enter (R:Rel B e h w) {t:List (Option SV)} {t':List Value} (hl:TR e t t') (fn:FuncId) (ps:Array Tmp) (sw body:Code):
  Rel B (e.enter h w.heap.size) (h++[.g (some ⟨w.heap.size+1,t,ps,sw,body,.ready,none⟩)]) ((w.alloc (.deferred (some []))).alloc (.loop {state:=.ready,pending:=none,fn,tmps:=⟨t'⟩,params:=ps,assign:=sw,body,defers:=w.heap.size})):=by
 generalize x7:Obj.loop {state:=.ready,pending:=none,fn,tmps:=⟨t'⟩,params:=ps,assign:=sw,body,defers:=w.heap.size}=ob
 have hold:∀n,n<w.heap.size->((w.alloc (.deferred (some []))).alloc ob).heap[n]? =w.heap[n]? :=λn hn=>(heap_alloc_old _ _ n (by rw [World.size_alloc];omega)).trans (heap_alloc_old w _ n hn)
 have hd:((w.alloc (.deferred (some []))).alloc ob).heap[w.heap.size]? =some (.deferred (some [])):=(heap_alloc_old _ _ _ (by rw [World.size_alloc];omega)).trans (heap_alloc_new w _)
 have hlp:((w.alloc (.deferred (some []))).alloc ob).heap[w.heap.size+1]? =some ob:=by
  have:=heap_alloc_new (w.alloc (.deferred (some []))) ob
  rwa [World.size_alloc] at this
 have le:=tw e h w.heap.size
 have get:∀(i:Nat) (b:Blk),(h++[.g (some ⟨w.heap.size+1,t,ps,sw,body,.ready,none⟩)])[i]? =some b->(i<h.length/\h[i]? =some b)\/(i=h.length/\b= .g (some ⟨w.heap.size+1,t,ps,sw,body,.ready,none⟩)):=λi b hi=>by
  rcases acf i h.length with h1|h1
  ·rw [aaR h1] at hi;exact .inl ⟨h1,hi⟩
  ·rw [aaV h1] at hi
   have:=(aal.1 hi).1
   simp at this
   have hq:i=h.length:=by omega
   subst hq
   simp at hi
   exact .inr ⟨rfl,hi.symm⟩
 exact {
  os:=R.os,tape:=R.tape,output:=R.output
  size:=by have:=R.size;rw [World.size_alloc,World.size_alloc];omega
  inj:=R.inj,dom:=λi p hi=>by have:=R.dom i p hi;simp;omega
  sep:=R.sep
  eU:=λn c ty fr hz=>by rw [hold n (R.JQ hz)];exact R.eU n c ty fr hz
  bp:=R.bp,dU:=R.dU,news:=R.news,bA:=R.bA,bM:=R.bM,n0:=R.n0,cI:=R.cI
  ew:=λi qs hi=>by
   rcases get i _ hi with ⟨h1,h2⟩|⟨_,h2⟩
   ·rcases R.ew i qs h2 with g|⟨p,o,hq,ho,Pv⟩
    ·exact .inl g
    ·exact .inr ⟨p,o,hq,by rw [hold p.n (R.lt hq)];exact ho,Pv.mono le⟩
   ·cases h2
  gap:=λi g hi=>by
   rcases get i _ hi with ⟨h1,h2⟩|⟨h1,h2⟩
   ·refine ⟨(R.gap i g h2).1,?_⟩
    have hg:=(R.gap i g h2).2
    cases g with
    |none=>trivial
    |some L=>exact hg.le (λn o hn=>by rw [hold n (aav.1 hn).1];exact hn) (Ku h2) le
   ·cases h2
    refine ⟨?_,?_,_,by rw [hlp, <-x7],rfl,rfl,rfl,rfl,rfl,hl.mono le⟩
    ·cases hq:e.r i with
     |none=>exact hq
     |some p=>have:=R.dom _ p hq;omega
    ·show (if i=h.length then _ else _)=_
     rw [aaM h1]
  yi:=λi j n hi hj=>by
   rcases tC R hi with ⟨h1,h2⟩|⟨h1,h2,h3⟩<;>rcases tC R hj with ⟨g1,g2⟩|⟨g1,g2,g3⟩
   ·omega
   ·omega
   ·omega
   ·exact R.yi i j n h2 g2
  yb:=λi n hi=>by
   rcases tC R hi with ⟨h1,h2⟩|⟨h1,h2,h3⟩
   ·exact .inr (by have:=R.size;omega)
   ·exact R.yb i n h2
  old:=λn hn hno nI=>by rw [hold n (by have:=R.size;omega)];exact R.old n hn hno nI
  win:=λi p hi=>by
   obtain ⟨o,o',h1,h2,h3⟩:=R.win i p hi
   exact ⟨o,o',h1,by rw [hold p.n (R.lt (R.bA i p hi))];exact h2,h3⟩
  kr:=R.kr
  fO:=by have:=R.fO;simp;omega
  fc:=λr hr=>by
   rcases ad2.1 hr with rfl|hr
   ·exact ⟨hd,R.size⟩
   ·have:=R.fc r hr
    exact ⟨by rw [hold r (aav.1 this.1).1];exact this.1,this.2⟩
  gJ:=List.nodup_cons.2 ⟨λhm=>by have:=(aav.1 (R.fc _ hm).1).1;omega,R.gJ⟩}
theorem Rel.Gf (R:Rel B e h w) {i:Nat} {g:Option Lp} (hi:h[i]? =some (.g g)):Rel B e (h.set i .gap) w:={R with
 dom:=λj p hj=>by simpa using R.dom j p hj
 ew:=λj ps hj=>by
  by_cases hij:i=j
  ·subst hij;rw [aay (aal.1 hi).1] at hj;cases hj
  ·rw [aau hij] at hj;exact R.ew j ps hj
 gap:=λj g' hj=>by
  by_cases hij:i=j
  ·subst hij;rw [aay (aal.1 hi).1] at hj;cases hj;exact ⟨(R.gap i g hi).1,trivial⟩
  ·rw [aau hij] at hj;exact R.gap j g' hj
 fO:=by simpa using R.fO}
end
section
variable {P:Program}
theorem Tr.range {k:Nat} {g:Operand} {ps:Array Tmp} {sw body:Code} {f:FuncId} {fn:Func} {first lO:List SV} {s:St} {v:SV} {h1:Nat->List Blk} {hf:List Blk} {q:Option Code} {x:Exit} (ob:Bool)
  (hfn:P.funcs[f]? =some fn) (hn:(fn.name != "runtime.NumGoroutine")=true) (hb:fn.body.isSome=true) (hg:ev s.t g=some (.fn (.func f) first lO))
  (j8:∀l,ai P f (first++[.fn (.yield l) [] []]++lO) (s.h++[.g (some ⟨l,s.t,ps,sw,body,.ready,none⟩)]) v (h1 l))
  (hL:∀l,∃L,oL (h1 l) s.h.length=some L/\L.l=l/\L.st≠.busy/\L.iQ=q) (hh:∀l,(h1 l).set s.h.length .gap=hf) (hx:wH x=some q):
  Tr P none k (.rangeFunc g ps sw body) s x ⟨s.t,hf,ob⟩:=by
 intro B e w t' d Q nn hB hl R hQ
 refine wpIn_rangeFunc λVJ _=>?_
 have R1:=R.enter hl VJ ps sw body
 generalize hW:(w.alloc (.deferred (some []))).alloc (.loop {state:=.ready,pending:=none,fn:=VJ,tmps:=⟨t'⟩,params:=ps,assign:=sw,body,defers:=w.heap.size})=W1 at R1
 obtain ⟨ys,us,hy,hu,hgv⟩:=aK (d:=p8 e.m++d) hl hg
 have hargs:LR (e.enter s.h w.heap.size) (first++[.fn (.yield (w.heap.size+1)) [] []]++lO) (ys++[.func (.yield (w.heap.size+1)) #[] #[]]++us):=
  ((hy.mono (tw e _ _)).append (LR.one (show VR (e.enter s.h w.heap.size) (.fn (.yield (w.heap.size+1)) [] []) (.func (.yield (w.heap.size+1)) #[] #[]) from ⟨[],[],rfl,rfl,rfl⟩))).append (hu.mono (tw e _ _))
 have JT:fn.body≠none:=λq=>by rw [q] at hb;cases hb
 have P7:=eK hfn (by simpa using hn) JT ⟨ys++[.func (.yield (w.heap.size+1)) #[] #[]]++us⟩ W1
 refine ⟨w.heap.size+1,[{target:=.collected w.heap.size,args:=#[]}],W1,{target:=.fn (.func f) ⟨us⟩,args:=⟨ys++[.func (.yield (w.heap.size+1)) #[] #[]]⟩},W1,f,⟨ys++[.func (.yield (w.heap.size+1)) #[] #[]]++us⟩,W1,?_,?_,λ_ _=>trivial,?_,λh=>by simp [wF,Fence.wide] at h,n4.2 ?_⟩
 ·rw [<-hW];exact run_enterLoop_outer _ _ _ _ _
 ·simp only [resolve,hgv,Deferred.ofValue,aax]
  congr 2
  apply adV
  simp [Act.eval]
 ·simp only [invoke]
  rw [<-P7]
  congr 2
  apply adV
  simp
 ·refine (j8 (w.heap.size+1) _ _ W1 _ (aaf _) (hargs.mono (jE _ _)) R1.self).mono ?_
  rintro en w' ⟨v',rfl,e',_,hv,S⟩
  have T:=R1.trans S
  obtain ⟨L,abj,hLl,abk,hLp⟩:=hL (w.heap.size+1)
  have UN:=o8 abj
  obtain ⟨_,_,r,hr,_,_,_,hst,hpd,_⟩:=T.gap _ _ UN
  have T2:=T.wY UN hr .exhausted L.iQ
  have T3:=T2.Gf (i:=s.h.length) (aay (aal.1 UN).1)
  rw [List.set_set,hh] at T3
  rw [hLl] at hr
  refine ⟨r.pending,_,run_endLoop hr (by rw [hst];exact abk),?_⟩
  have hpq:r.pending=q:=hpd.trans hLp
  have le:Env.Le e {e' with m:=(e.enter s.h w.heap.size).m}:=⟨λi p hp=>S.bA i p hp,λn o ho=>S.bM n o ho,by show e'.n0<=e.n0;rw [S.n0];exact aaf _⟩
  have fin:=hQ {e' with m:=(e.enter s.h w.heap.size).m} _ t' (hl.mono le) T3
  have Z7:L.iQ=r.pending:=hLp.trans hpq.symm
  rw [Z7,hLl] at fin
  rw [hpq]
  rw [hpq] at fin
  cases x<;>simp only [wH,No,reduceCtorEq] at hx<;>subst hx
  ·rw [<-hpq];rw [hpq];exact fin
  ·exact wpIn_exit fin
  ·exact wpIn_ret fin
def VK (id:Nat):Code->Bool
 | .block j (.rangeFunc _ _ _ _)=>j==id
 |_=>false
def rfG:Code->Operand
 | .rangeFunc g _ _ _=>g
 |_=>.const .nilFunc
def rfP:Code->Array Tmp
 | .rangeFunc _ ps _ _=>ps
 |_=>#[]
def rfA:Code->Code
 | .rangeFunc _ _ a _=>a
 |_=>.skip
def rfB:Code->Code
 | .rangeFunc _ _ _ b=>b
 |_=>.skip
def JW (c:Code) (t:List (Option SV)) (l:Nat):Lp:=⟨l,t,rfP (inner c),rfA (inner c),rfB (inner c),.ready,none⟩
theorem Tr.w9 (id:Nat) {k:Nat} {c:Code} (hc:VK id c=true) {f:FuncId} {fn:Func} {first lO:List SV} {s:St} {v:SV} {h1:Nat->List Blk} {hf:List Blk} (ob:Bool)
  (hfn:P.funcs[f]? =some fn) (hn:(fn.name != "runtime.NumGoroutine")=true) (hb:fn.body.isSome=true) (hg:ev s.t (rfG (inner c))=some (.fn (.func f) first lO))
  (j8:∀l,ai P f (first++[.fn (.yield l) [] []]++lO) (s.h++[.g (some (JW c s.t l))]) v (h1 l))
  (hL:∀l,∃L,oL (h1 l) s.h.length=some L/\L.l=l/\L.st≠.busy/\L.iQ=none) (hh:∀l,(h1 l).set s.h.length .gap=hf):
  Tr P none k c s .normal ⟨s.t,hf,ob⟩:=by
 cases c<;>simp only [VK,adQ] at hc
 rename_i j b
 cases b<;>simp only [adQ] at hc
 exact Tr.b8 (Tr.range ob hfn hn hb hg j8 hL hh rfl) (by simp)
end
end Go.Sy
