/- This file ties the interpreter's calls to a row's statement: a law called with what came in returns what is reckoned, and writes nothing that was there. Conditions: what came in reads as data. -/
import Derived.Test.YtibfpjeeanppjaaGreatUMc
import Derived.Below
import Derived.WideShapes
set_option linter.all false
namespace Go.Sy
open Go
theorem Rel.start (w:World):Rel ⟨w,iI (jZ w) w.heap.size,0,[]⟩ (iI (jZ w) w.heap.size) [] w where
 os:=rfl
 tape:=rfl
 output:=rfl
 size:=Nat.le_refl _
 inj:=fun i j p q hi=>by cases hi
 dom:=fun i p hi=>by cases hi
 sep:=fun i p hi=>by cases hi
 gk:=fun n c ty fr hx=>ri hx
 aY:=fun _ _ hx=>.inl hx
 news:=fun _ _ hi=>.inl hi
 bg:=fun _ _ hi=>hi
 bM:=fun _ _ hx=>hx
 n0:=rfl
 cP:=Nat.le_refl _
 fA:=fun i ps hi=>by simp at hi
 gap:=fun i g hi=>by simp at hi
 yi:=fun i j n hi=>by cases hi
 yb:=fun i n hi=>by cases hi
 old:=fun _ _ _ _=>rfl
 win:=fun i p hi=>by cases hi
 kr:=fun i p hi=>by cases hi
 gL:=Nat.le_refl _
 hY:=fun r hr=>by cases hr
 jq:=List.nodup_nil
section
variable {P:Program}
theorem aj.below {f:FuncId} {args:List SV} {args':List Value} {h':List Blk} {b:Bool} (g:aj P f args [] (.bool b) h') {w:World} (hl:LR (iI (jZ w) w.heap.size) args args'):
  Calls P f ⟨args'⟩ w fun e w'=>e= .returned (.bool b)∧Go.RowKit.Below w.heap.size w w':=by
 refine (g _ _ w args' (Nat.le_refl _) hl (Rel.start w)).mono ?_
 rintro x w' ⟨v',rfl,e',_,hv,R'⟩
 rw [VR] at hv
 subst hv
 exact ⟨rfl,R'.os,R'.tape,R'.output,R'.size,fun n hn=>R'.old n hn (fun i p hi=>by cases hi) (by simp)⟩
theorem abn {w:World} {r:Reach} {base:Nat} {t:TypeId} {v:Value} {k:IntKind} {n:Nat} (ha:(P.underlying t).map (fun| .struct _=>true| .array _ _=>true|_=>false)=some true)
  (hc:(P.cellTypes P.depth t).map (fun ts=>ts.all fun u=>isInt P u==some k)=some true) (hn:P.cellsOf t=n) (h:Value.okWide P w r base t v):
  ∃zs:List Int,v= .agg ⟨aV k zs⟩∧zs.length=n∧∀z∈zs,k.has z:=by
 have h':∃cs,v= .agg cs∧cs.size=P.cellsOf t∧Row.okWide P w r base t cs:=by
  unfold Value.okWide at h
  cases hu:P.underlying t with
  |none=>rw [hu] at ha;cases ha
  |some u=>rw [hu] at ha h;cases u<;>first|exact h|(cases ha;done)
 obtain ⟨cs,rfl,hs,ts,hts,_,hall⟩:=h'
 rw [hts] at hc
 simp only [Option.map_some,Option.some.injEq,List.all_eq_true,beq_iff_eq] at hc
 have cell:∀(i:Nat) (v:Value),cs[i]? =some v→∃z:Int,v=Value.int k z∧k.has z:=fun i v hi=>by
  obtain ⟨u,hu,hok⟩:=hall i v hi
  have hk:=hc u (List.mem_of_getElem? hu)
  have hk':P.underlying u=some (.int k):=by
   unfold isInt at hk
   split at hk
   ·rename_i hx;cases hk;exact hx
   ·cases hk
  simp only [Cell.okWide,hk',Cell.ok] at hok
  cases v<;>simp_all
 have hex:∀l:List Value,(∀v∈l,∃z:Int,v=Value.int k z∧k.has z)→∃zs:List Int,l=aV k zs∧∀z∈zs,k.has z:=by
  intro l
  induction l with
  |nil=>intro _;exact ⟨[],rfl,by simp⟩
  |cons a l ih=>
   intro hl
   obtain ⟨z,rfl,hz⟩:=hl a (by simp)
   obtain ⟨zs,rfl,hzs⟩:=ih fun v hv=>hl v (by simp [hv])
   refine ⟨z::zs,rfl,fun y hy=>?_⟩
   rcases List.mem_cons.1 hy with rfl|hy
   ·exact hz
   ·exact hzs y hy
 obtain ⟨zs,hzs,hk⟩:=hex cs.toList fun v hv=>by
  obtain ⟨i,hi⟩:=List.mem_iff_getElem?.1 hv
  exact cell i v (by simpa using hi)
 refine ⟨zs,by rw [←hzs],?_,hk⟩
 have:=congrArg List.length hzs
 rw [av] at this
 simp at this
 omega
theorem yo {w:World} {a:Addr} {c:Array Value} {t:TypeId} {fr:Nat×Nat} {k:IntKind} {zs:List Int} (hb:w.heap[a.block]? =some (.cells c t fr)) (hs:a.spot=none)
  (hc:∀i,i<zs.length→w.cell? (a.add i)=some (.int k (zs.getD i 0))):aV k zs=(c.toList.drop a.off).take zs.length:=by
 have key:∀i,i<zs.length→c.toList[a.off+i]? =some (.int k (zs.getD i 0)):=fun i hi=>by
  have h:=hc i hi
  unfold World.cell? Addr.add at h
  split at h
  ·rename_i c' t' fr' hb'
   split at hb'
   ·rename_i h0
    subst h0
    rw [hb] at hb'
    cases hb'
    simp only [if_true,hs] at h
    simpa using h
   ·simp only [hb,Option.some.injEq,Obj.cells.injEq] at hb'
    obtain ⟨rfl,rfl,rfl⟩:=hb'
    rename_i El
    rw [if_neg El] at h
    simpa using h
  ·cases h
 apply List.ext_getElem?
 intro i
 simp only [aV,List.getElem?_map,List.getElem?_take,List.getElem?_drop]
 by_cases hi:i<zs.length
 ·rw [if_pos hi,key i hi]
  simp [List.getD,List.getElem?_eq_getElem hi]
 ·rw [if_neg hi,List.getElem?_eq_none (by omega)];rfl
theorem vQ {w:World} {r:Reach} {base:Nat} {t e:TypeId} {a:Addr} {len cap:Nat} (ht:P.underlying t=some (.slice e)) (h:Value.okWide P w r base t (.slice (some a) len cap)):
  len≤cap∧a.spot=none∧∃c t' fr,w.heap[a.block]? =some (.cells c t' fr):=by
 simp only [Value.okWide,ht,Cell.okWide,Cell.ok,World.has] at h
 obtain ⟨hl,_,_,hs,row,cells,hsh,_⟩:=h
 refine ⟨hl,hs,?_⟩
 unfold World.shape? at hsh
 split at hsh
 ·rename_i c el fr hb
  exact ⟨c,el,fr,hb⟩
 ·simp at hsh
theorem nX.Jp {w:World} {a:Addr} {c:Array Value} {t:TypeId} {fr:Nat×Nat} {k:IntKind} {zs:List Int} {len cap m:Nat} (hb:w.heap[a.block]? =some (.cells c t fr)) (hs:a.spot=none) (hcap:zs.length=cap) (hlen:len≤cap)
  (hc:∀i,i<zs.length→w.cell? (a.add i)=some (.int k (zs.getD i 0))):nX (iI (jZ w) m) false k (zs.take len) (.slice (some a) len cap):=by
 have hl:(zs.take len).length=len:=by rw [List.length_take];omega
 by_cases h0:cap=0
 ·exact .inl ⟨List.length_eq_zero_iff.1 (by omega),_,cap,by rw [show len=0 by omega],fun q=>by cases q⟩
 ·obtain ⟨b,o,sp⟩:=a
  simp only at hs
  subst hs
  have hw:=yo hb rfl hc
  have hsz:o+cap≤c.size:=by
   have:=congrArg List.length hw
   rw [av,List.length_take,List.length_drop] at this
   simp only [Array.length_toList] at this
   omega
  refine .inr ⟨b,o,cap,c,t,fr,by rw [hl],qh hb,(fun q=>by cases q),?_,by omega,hsz⟩
  rw [cq,hw,hl,List.take_take,hcap,Nat.min_eq_left hlen]
end
end Go.Sy
namespace Go.Sy
open Go
mutual
def rq:SV→Bool
 | .ro _ _ _=>false
 | .hU _ _=>false
 | .qD _ _ _ _=>false
 | .pV _ _ _=>false
 | .s6 _ _ _=>false
 | .nR _ _ _ _ _ _ _=>false
 | .agg ps=>kE ps
 | .bk vs=>kE vs
 | .iface _ x=>rq x
 | .fn _ a b=>kE a&&kE b
 |_=>true
def kE:List SV→Bool
 | []=>true
 |x::xs=>rq x&&kE xs
end
section
variable {e e':Env} {s:Nat→Nat}
mutual
theorem VR.lQ:∀{v:SV} {v':Value},rq v=true→(∀j p,uses j v=true→e.r j=some p→e'.r (s j)=some p)→VR e v v'→VR e' (lM s v) v'
 | .bool _,_,_,_,h=>h
 | .int _ _,_,_,_,h=>h
 | .str _,_,_,_,h=>h
 | .nl _,_,_,_,h=>h
 | .ints _ _ _,_,_,_,h=>h
 | .ptr b _ _,_,_,g,⟨p,h1,h2⟩=>⟨p,g b p (by simp [uses]) h1,h2⟩
 | .sl b _ _ _ _ _ _ _,_,_,g,h=>by
  rcases h with h|⟨p,c,a,h1,h2⟩
  ·exact .inl h
  ·exact .inr ⟨p,c,a,g b p (by simp [uses]) h1,h2⟩
 | .ro _ _ _,_,n,_,_=>by simp [rq] at n
 | .hU _ _,_,n,_,_=>by simp [rq] at n
 | .qD _ _ _ _,_,n,_,_=>by simp [rq] at n
 | .pV _ _ _,_,n,_,_=>by simp [rq] at n
 | .s6 _ _ _,_,n,_,_=>by simp [rq] at n
 | .nR _ _ _ _ _ _ _,_,n,_,_=>by simp [rq] at n
 | .agg ps,_,n,g,⟨ys,h1,h2⟩=>⟨ys,PR.lQ (by simpa [rq] using n) (fun j p q=>g j p (by simpa [uses] using q)) h1,h2⟩
 | .bk vs,_,n,g,⟨ys,h1,h2⟩=>⟨ys,LR.lQ (by simpa [rq] using n) (fun j p q=>g j p (by simpa [uses] using q)) h1,h2⟩
 | .iface _ x,_,n,g,⟨y,h1,h2⟩=>⟨y,VR.lQ (v:=x) (by simpa [rq] using n) (fun j p q=>g j p (by simpa [uses] using q)) h1,h2⟩
 | .fn _ a b,_,n,g,⟨ys,us,h1,h2,h3⟩=>by
  simp only [rq,Bool.and_eq_true] at n
  exact ⟨ys,us,LR.lQ n.1 (fun j p q=>g j p (by simp [uses,q])) h1,LR.lQ n.2 (fun j p q=>g j p (by simp [uses,q])) h2,h3⟩
theorem LR.lQ:∀{vs:List SV} {ys:List Value},kE vs=true→(∀j p,cW j vs=true→e.r j=some p→e'.r (s j)=some p)→LR e vs ys→LR e' (gG s vs) ys
 | [],_,_,_,h=>h
 |x::xs,_,n,g,⟨y,zs,h1,h2,h3⟩=>by
  simp only [kE,Bool.and_eq_true] at n
  exact ⟨y,zs,VR.lQ n.1 (fun j p q=>g j p (by simp [cW,q])) h1,LR.lQ n.2 (fun j p q=>g j p (by simp [cW,q])) h2,h3⟩
theorem PR.lQ:∀{vs:List SV} {ys:List Value},kE vs=true→(∀j p,cW j vs=true→e.r j=some p→e'.r (s j)=some p)→PR e vs ys→PR e' (gG s vs) ys
 | [],_,_,_,h=>h
 |x::xs,ys,n,g,h=>by
  simp only [kE,Bool.and_eq_true] at n
  have ih:=fun zs=>PR.lQ (vs:=xs) (ys:=zs) n.2 (fun j p q=>g j p (by simp [cW,q]))
  have iv:=fun y=>VR.lQ (v:=x) (v':=y) n.1 (fun j p q=>g j p (by simp [cW,q]))
  cases x<;>first
   |(obtain ⟨zs,h1,h2⟩:=h;exact ⟨zs,ih zs h1,h2⟩)
   |(obtain ⟨y,zs,h1,h2,h3⟩:=h;exact ⟨y,zs,iv y h1,ih zs h2,h3⟩)
end
end
def nU (is:List Nat) (h:List Blk):List Blk:=h.zipIdx.map fun (b,i)=>match is.contains i,b with
 |true,.b _=>.b []
 |_,b=>b
mutual
def dB (is:List Nat) (hg:List Blk):SV→Option (SV×Bool×Bool)
 | .ptr b o i=>if is.contains b then some (.ptr (is.idxOf b) o i,true,false) else none
 | .sl b o i z len cap ex wh=>if is.contains b then some (.sl (is.idxOf b) o i z len cap ex wh,true,false) else bI hg (.sl b o i z len cap ex wh)
 | .fn f a b=>match mX is hg a,mX is hg b with
  |some (x,p,s),some (y,q,t)=>some (.fn f x y,aa p q,s||t)
  |_,_=>none
 | .agg ps=>match mX is hg ps with
  |some (l,p,t)=>some (.agg l,p,t)
  |none=>none
 | .iface ty x=>match dB is hg x with
  |some (y,p,t)=>some (.iface ty y,p,t)
  |none=>none
 | .bool b=>bI hg (.bool b)
 | .int k n=>bI hg (.int k n)
 | .str s=>bI hg (.str s)
 | .nl v=>bI hg (.nl v)
 | .ints k n xs=>bI hg (.ints k n xs)
 | .ro f k xs=>bI hg (.ro f k xs)
 | .hU f xss=>bI hg (.hU f xss)
 | .qD f z len g=>bI hg (.qD f z len g)
 |_=>none
def mX (is:List Nat) (hg:List Blk):List SV→Option (List SV×Bool×Bool)
 | []=>some ([],true,false)
 |x::xs=>match dB is hg x,mX is hg xs with
  |some (y,p,a),some (l,q,b)=>some (y::l,aa p q,a||b)
  |_,_=>none
end
theorem AH {is:List Nat} {hg:List Blk} {v u:SV} {p t:Bool} (g:dB is hg v=some (u,p,t)) (hn:aW v=true):aW u=true:=by
 cases v<;>simp only [dB] at g
 case ptr=>split at g<;>cases g;rfl
 case sl=>
  split at g
  ·cases g;rfl
  ·exact mW g rfl
 case fn=>split at g<;>cases g;rfl
 case agg=>split at g<;>cases g;rfl
 case iface=>split at g<;>cases g;rfl
 case ints=>cases hn
 all_goals first|exact mW g rfl|cases g
def eL (h:List Blk):List Nat→List Blk→List Blk
 |i::is,b::bs=>eL (h.set i b) is bs
 |_,_=>h
def Gw (s:Nat→Nat):Blk→Blk
 | .b ps=>.b (gG s ps)
 | .g _=>.gap
theorem ou:∀{h:List Blk} {is:List Nat} {bs:List Blk},(eL h is bs).length=h.length
 |_,[],_=>by simp [eL]
 |_,_::_,[]=>by simp [eL]
 |h,i::is,b::bs=>by simp only [eL];rw [ou,List.length_set]
theorem nH:∀{h:List Blk} {is:List Nat} {bs:List Blk} {i:Nat},i ∉ is→(eL h is bs)[i]? =h[i]?
 |_,[],_,_,_=>by simp [eL]
 |_,_::_,[],_,_=>by simp [eL]
 |h,a::is,b::bs,i,hi=>by
  simp only [List.mem_cons,not_or] at hi
  simp only [eL]
  rw [nH hi.2,List.getElem?_set_ne (fun q=>hi.1 q.symm)]
theorem uZ:∀{h:List Blk} {is:List Nat} {bs:List Blk} {q i:Nat},is.Nodup→is[q]? =some i→i<h.length→q<bs.length→(eL h is bs)[i]? =bs[q]?
 |_,[],_,_,_,_,hq,_,_=>by simp at hq
 |_,_::_,[],_,_,_,_,_,hb=>by simp at hb
 |h,a::is,b::bs,0,i,hn,hq,hl,_=>by
  simp at hq;subst hq
  simp only [eL]
  rw [nH (List.nodup_cons.1 hn).1]
  simp [hl]
 |h,a::is,b::bs,q+1,i,hn,hq,hl,hb=>by
  simp only [eL]
  have:=uZ (h:=h.set a b) (is:=is) (bs:=bs) (q:=q) (i:=i) (List.nodup_cons.1 hn).2 (by simpa using hq) (by simpa using hl) (by simpa using hb)
  simpa using this
theorem sj {is:List Nat} {h:List Blk}:(nU is h).length=h.length:=by simp [nU]
theorem qi {is:List Nat} {h:List Blk} {i:Nat}:(nU is h)[i]? =(h[i]?).map fun b=>match is.contains i,b with
  |true,.b _=>.b []
  |_,b=>b:=by
 unfold nU
 rw [List.getElem?_map,List.getElem?_zipIdx]
 cases h[i]? <;>simp
section
variable {P:Program} {B:dA} {e:Env} {h:List Blk} {w:World}
theorem Rel.nU (R:Rel B e h w) (is:List Nat):Rel B e (nU is h) w:={R with
 dom:=fun i p hi=>by rw [sj];exact R.dom i p hi
 fA:=fun i ps hi=>by
  rw [qi] at hi
  cases hq:h[i]? with
  |none=>simp [hq] at hi
  |some b=>
   simp only [hq,Option.map_some,Option.some.injEq] at hi
   cases hc:is.contains i with
   |false=>
    rw [hc] at hi
    simp only at hi
    subst hi
    exact R.fA i ps hq
   |true=>
    rw [hc] at hi
    cases b with
    |g _=>cases hi
    |b qs=>
     simp only [Blk.b.injEq] at hi
     subst hi
     rcases R.fA i qs hq with ⟨g1,g2⟩|⟨p,o,g1,g2,c,t,rfl,g3,g4,g5⟩
     ·exact .inl ⟨rfl,g2⟩
     ·exact .inr ⟨p,_,g1,g2,c,t,rfl,g3,Nat.zero_le _,by simp [aA,PR]⟩
 gap:=fun i g hi=>by
  rw [qi] at hi
  cases hq:h[i]? with
  |none=>simp [hq] at hi
  |some b=>
   cases b with
   |g g'=>
    simp only [hq,Option.map_some,Option.some.injEq] at hi
    have:g'=g:=by cases hc:is.contains i<;>rw [hc] at hi<;>cases hi<;>rfl
    subst this
    exact R.gap i _ hq
   |b ps=>
    simp only [hq,Option.map_some,Option.some.injEq] at hi
    cases hc:is.contains i<;>rw [hc] at hi<;>cases hi
 gL:=by rw [sj];exact R.gL}
end
def qj (e:Env) (is:List Nat) (z:Nat→Option (Array Value×TypeId×(Nat×Nat))) (n:Nat):Env:=⟨fun q=>(is[q]?).bind e.r,z,n,[],fun _=>none⟩
def CE (e:Env) (is:List Nat) (n:Nat):Bool:=is.any fun i=>match e.r i with
 |some p=>p.n==n
 |none=>false
def CF (e:Env) (w:World) (t:Bool):Nat:=match t with
 |true=>w.heap.size
 |false=>e.n0
def zC (e:Env) (w:World) (is:List Nat) (t:Bool):Nat→Option (Array Value×TypeId×(Nat×Nat)):=fun n=>match t with
 |true=>match CE e is n with
  |true=>none
  |false=>jZ w n
 |false=>e.z n
section
variable {P:Program} {B:dA} {e:Env} {h:List Blk} {w:World}
theorem u5 {is:List Nat} {n:Nat}:CE e is n=true↔∃i p,i∈is∧e.r i=some p∧p.n=n:=by
 unfold CE
 rw [List.any_eq_true]
 constructor
 ·rintro ⟨i,hi,hq⟩
  cases hp:e.r i with
  |none=>simp [hp] at hq
  |some p=>simp [hp] at hq;exact ⟨i,p,hi,hp,hq⟩
 ·rintro ⟨i,p,hi,hp,hn⟩
  exact ⟨i,hi,by simp [hp,hn]⟩
theorem yp {is:List Nat} {b:Nat} (hb:is.contains b=true):is[is.idxOf b]? =some b:=by
 have hm:b∈is:=by simpa using hb
 rw [List.getElem?_eq_getElem (List.idxOf_lt_length_of_mem hm)]
 simp
theorem iR (R:Rel B e h w) {is:List Nat} {T:Bool} (m:Nat) {v u:SV} {t:Bool} {v':Value} (g:bI (Sy.nU is h) v=some (u,true,t)) (ht:t=true→T=true) (hv:VR e v v'):VR (qj e is (zC e w is T) m) u v':=by
 have iB:∀n x,e.z n=some x→zC e w is T n=some x:=fun n x hx=>by
  cases T with
  |false=>exact hx
  |true=>
   have hl:CE e is n=false:=by
    cases hl:CE e is n with
    |false=>rfl
    |true=>
     obtain ⟨i,p,_,hp,rfl⟩:=u5.1 hl
     rw [R.sep i p hp] at hx;cases hx
   simp only [zC,hl]
   obtain ⟨c,ty,fr⟩:=x
   exact qh (R.gk n c ty fr hx)
 have:=lz (R.nU is) (zz:=zC e w is T) iB (T:=T) (fun hT i p c ty hne hp hc=>by
  subst hT
  have hl:CE e is p.n=false:=by
   cases hl:CE e is p.n with
   |false=>rfl
   |true=>
    exfalso
    obtain ⟨i',p',hi',Ek,hn⟩:=u5.1 hl
    have:=R.inj i' i p' p Ek hp hn
    subst this
    have PX:=R.dom i' p hp
    refine hne ?_
    rw [qi,List.getElem?_eq_getElem PX,Option.map_some,show is.contains i'=true by simpa using hi']
    cases hb:h[i'] with
    |b ps=>rfl
    |g _=>
     have:=(R.gap i' _ (by rw [List.getElem?_eq_getElem PX,hb])).1
     rw [hp] at this;cases this
  show zC e w is true p.n=_
  simp only [zC,hl]
  exact qh hc) m g ht hv
 exact VR.mono (e:=iI (zC e w is T) m) (e':=qj e is (zC e w is T) m) ⟨(fun _ _ h=>by cases h),fun _ _ h=>h,Nat.le_refl _⟩ this
theorem Lu {is:List Nat} {z:Nat→Option (Array Value×TypeId×(Nat×Nat))} {m:Nat}:∀b p,is.contains b=true→e.r b=some p→(qj e is z m).r (is.idxOf b)=some p:=fun b p hb hp=>by
 show (is[is.idxOf b]?).bind e.r=some p
 rw [yp hb];exact hp
mutual
theorem oX (R:Rel B e h w) {is:List Nat} {T:Bool} (m:Nat):∀{v u:SV} {t:Bool} {v':Value},dB is (nU is h) v=some (u,true,t)→(t=true→T=true)→VR e v v'→VR (qj e is (zC e w is T) m) u v'
 | .ptr b o i,u,t,v',g,ht,hv=>by
  simp only [dB] at g
  split at g
  ·rename_i hb
   cases g
   obtain ⟨p,h1,h2⟩:=hv
   exact ⟨p,Lu b p hb h1,h2⟩
  ·cases g
 | .sl b o i z len cap ex wh,u,t,v',g,ht,hv=>by
  simp only [dB] at g
  split at g
  ·rename_i hb
   cases g
   rcases hv with hv|⟨p,c,a,h1,h2⟩
   ·exact .inl hv
   ·exact .inr ⟨p,c,a,Lu b p hb h1,h2⟩
  ·exact iR R m g ht hv
 | .fn f a b,u,t,v',g,ht,hv=>by
  simp only [dB] at g
  split at g
  ·rename_i x p s y q t' ha hb
   simp only [Option.some.injEq,Prod.mk.injEq,au] at g
   obtain ⟨rfl,⟨rfl,rfl⟩,rfl⟩:=g
   obtain ⟨ys,us,h1,h2,rfl⟩:=hv
   exact ⟨ys,us,lB R m ha (fun h=>ht (by rw [h];rfl)) h1,lB R m hb (fun h=>ht (by rw [h];exact Bool.or_true _)) h2,rfl⟩
  ·cases g
 | .agg ps,u,t,v',g,ht,hv=>by
  simp only [dB] at g
  split at g
  ·rename_i l p t' hl
   simp only [Option.some.injEq,Prod.mk.injEq] at g
   obtain ⟨rfl,rfl,rfl⟩:=g
   obtain ⟨ys,h1,rfl⟩:=hv
   exact ⟨ys,oY R m hl ht h1,rfl⟩
  ·cases g
 | .iface ty x,u,t,v',g,ht,hv=>by
  simp only [dB] at g
  split at g
  ·rename_i y p t' hl
   simp only [Option.some.injEq,Prod.mk.injEq] at g
   obtain ⟨rfl,rfl,rfl⟩:=g
   obtain ⟨y',h1,rfl⟩:=hv
   exact ⟨y',oX R m hl ht h1,rfl⟩
  ·cases g
 | .bool b,u,t,v',g,ht,hv=>by simp only [dB] at g;exact iR R m g ht hv
 | .int k n,u,t,v',g,ht,hv=>by simp only [dB] at g;exact iR R m g ht hv
 | .str k,u,t,v',g,ht,hv=>by simp only [dB] at g;exact iR R m g ht hv
 | .nl k,u,t,v',g,ht,hv=>by simp only [dB] at g;exact iR R m g ht hv
 | .ints k n xs,u,t,v',g,ht,hv=>by simp only [dB] at g;exact iR R m g ht hv
 | .ro f k xs,u,t,v',g,ht,hv=>by simp only [dB] at g;exact iR R m g ht hv
 | .hU f xs,u,t,v',g,ht,hv=>by simp only [dB] at g;exact iR R m g ht hv
 | .qD f z len gg,u,t,v',g,ht,hv=>by simp only [dB] at g;exact iR R m g ht hv
 | .pV _ _ _,u,t,v',g,_,_=>by simp [dB] at g
 | .s6 _ _ _,u,t,v',g,_,_=>by simp [dB] at g
 | .nR _ _ _ _ _ _ _,u,t,v',g,_,_=>by simp [dB] at g
 | .bk _,u,t,v',g,_,_=>by simp [dB] at g
theorem lB (R:Rel B e h w) {is:List Nat} {T:Bool} (m:Nat):∀{vs us:List SV} {t:Bool} {ys:List Value},mX is (nU is h) vs=some (us,true,t)→(t=true→T=true)→LR e vs ys→LR (qj e is (zC e w is T) m) us ys
 | [],us,t,ys,g,_,hv=>by simp only [mX,Option.some.injEq,Prod.mk.injEq] at g;obtain ⟨rfl,_⟩:=g;exact hv
 |x::xs,us,t,ys,g,ht,hv=>by
  simp only [mX] at g
  split at g
  ·rename_i y p a l q b hx hl
   simp only [Option.some.injEq,Prod.mk.injEq,au] at g
   obtain ⟨rfl,⟨rfl,rfl⟩,rfl⟩:=g
   obtain ⟨y',zs,h1,h2,rfl⟩:=hv
   exact ⟨y',zs,oX R m hx (fun h=>ht (by rw [h];rfl)) h1,lB R m hl (fun h=>ht (by rw [h];exact Bool.or_true _)) h2,rfl⟩
  ·cases g
theorem oY (R:Rel B e h w) {is:List Nat} {T:Bool} (m:Nat):∀{vs us:List SV} {t:Bool} {ys:List Value},mX is (nU is h) vs=some (us,true,t)→(t=true→T=true)→PR e vs ys→PR (qj e is (zC e w is T) m) us ys
 | [],us,t,ys,g,_,hv=>by simp only [mX,Option.some.injEq,Prod.mk.injEq] at g;obtain ⟨rfl,_⟩:=g;exact hv
 |x::xs,us,t,ys,g,ht,hv=>by
  simp only [mX] at g
  split at g
  ·rename_i y p a l q b hx hl
   simp only [Option.some.injEq,Prod.mk.injEq,au] at g
   obtain ⟨rfl,⟨rfl,rfl⟩,rfl⟩:=g
   have ha:a=true→T=true:=fun h=>ht (by rw [h];rfl)
   have hb:b=true→T=true:=fun h=>ht (by rw [h];exact Bool.or_true _)
   by_cases hn:aW x=true
   ·obtain ⟨y',zs,h1,h2,rfl⟩:=(PR.cons hn).1 hv
    exact (PR.cons (AH hx hn)).2 ⟨y',zs,oX R m hx ha h1,oY R m hl hb h2,rfl⟩
   ·cases x<;>simp [aW] at hn
    simp only [dB,bI,Option.some.injEq,Prod.mk.injEq] at hx
    obtain ⟨rfl,_⟩:=hx
    obtain ⟨zs,h2,rfl⟩:=hv
    exact ⟨zs,oY R m hl hb h2,rfl⟩
  ·cases g
end
def iC (is:List Nat) (j:Nat) (q:Nat):Nat:=match is[q]? with
 |some i=>i
 |none=>j+(q-is.length)
theorem Gx (R:Rel B e h w) {is:List Nat} {l:List (List SV)} (vP:is.Nodup) (hl:lP h is=some l) (AI:∀ps∈l,dP is ps=true) {t:Bool} (Lv:t=true→∀ps∈l,kE ps=true):
  Rel ⟨w,qj e is (zC e w is t) (CF e w t),is.length,[]⟩ (qj e is (zC e w is t) (CF e w t)) (l.map fun ps=>.b (gG (fun b=>is.idxOf b) ps)) w:=by
 obtain ⟨hlen,uV⟩:=kD hl
 have hr:∀q p,(qj e is (zC e w is t) (CF e w t)).r q=some p→∃i,is[q]? =some i∧e.r i=some p:=fun q p hq=>Option.bind_eq_some_iff.1 hq
 have hen:e.n0≤w.heap.size:=by have:=R.n0;have:=R.cP;have:=R.size;omega
 exact {
  os:=rfl,tape:=rfl,output:=rfl,size:=Nat.le_refl _
  inj:=fun i j p q hi hj hpq=>by
   obtain ⟨a,h1,h2⟩:=hr i p hi
   obtain ⟨b,h3,h4⟩:=hr j q hj
   have:=R.inj a b p q h2 h4 hpq
   subst this
   exact (List.getElem?_inj (List.getElem?_eq_some_iff.1 h1).1 vP).1 (h1.trans h3.symm)
  dom:=fun i p hi=>by
   obtain ⟨a,h1,_⟩:=hr i p hi
   have:=(List.getElem?_eq_some_iff.1 h1).1
   simpa [hlen] using this
  sep:=fun i p hi=>by
   obtain ⟨a,h1,h2⟩:=hr i p hi
   show zC e w is t p.n=none
   cases t with
   |false=>exact R.sep a p h2
   |true=>simp only [zC,u5.2 ⟨a,p,List.mem_of_getElem? h1,h2,rfl⟩]
  gk:=fun n c ty fr hx=>by
   have hx':zC e w is t n=some (c,ty,fr):=hx
   cases t with
   |false=>exact R.gk n c ty fr hx'
   |true=>
    simp only [zC] at hx'
    split at hx'
    ·cases hx'
    ·exact ri hx'
  aY:=fun _ _ hx=>.inl hx,news:=fun _ _ hi=>.inl hi,bg:=fun _ _ hi=>hi,bM:=fun _ _ hx=>hx,n0:=rfl
  cP:=by show CF e w t≤w.heap.size;cases t<;>simp [CF,hen]
  fA:=fun q ps hq=>by
   rw [List.getElem?_map] at hq
   obtain ⟨Jv,h1,h2⟩:=Option.map_eq_some_iff.1 hq
   cases h2
   have hqi:q<is.length:=by have:=(List.getElem?_eq_some_iff.1 h1).1;omega
   obtain ⟨ps1,h3,h4⟩:=uV q _ (List.getElem?_eq_getElem hqi)
   rw [h1] at h3;cases h3
   have yl:(qj e is (zC e w is t) (CF e w t)).r q=e.r is[q]:=by
    show (is[q]?).bind e.r=_;rw [List.getElem?_eq_getElem hqi];rfl
   have hmem:=List.mem_of_getElem? h1
   rcases R.fA _ Jv h4 with ⟨g1,g2⟩|⟨p,o,g1,g2,c,ty,rfl,g3,g4,g5⟩
   ·exact .inl ⟨by rw [cG];exact g1,by rw [yl];exact g2⟩
   ·refine .inr ⟨p,_,by rw [yl];exact g1,g2,c,ty,rfl,g3,by rw [cG];exact g4,?_⟩
    rw [cG]
    have up:∀b p,cW b Jv=true→e.r b=some p→(qj e is (zC e w is t) (CF e w t)).r (is.idxOf b)=some p:=fun b p hu hp=>by
     show (is[is.idxOf b]?).bind e.r=some p
     rw [yp (by simpa using de (AI Jv hmem) hu)];exact hp
    cases t with
    |false=>exact PR.lM (e:=e) (e':=qj e is (zC e w is false) (CF e w false)) (fun _ _ h=>h) (Nat.le_refl _) Jv _ up g5
    |true=>exact PR.lQ (e:=e) (e':=qj e is (zC e w is true) (CF e w true)) (Lv rfl Jv hmem) up g5
  gap:=fun q g hq=>by
   rw [List.getElem?_map] at hq
   obtain ⟨_,_,h2⟩:=Option.map_eq_some_iff.1 hq
   cases h2
  yi:=(fun i j n hi=>by cases hi),yb:=(fun i n hi=>by cases hi)
  old:=fun _ _ _ _=>rfl
  win:=fun i p hi=>by
   obtain ⟨a,h1,h2⟩:=hr i p hi
   obtain ⟨c,ty,h1,_⟩:=R.eU h2
   exact ⟨_,_,h1,h1,c,c,ty,(0,0),rfl,rfl,rfl,fun _ _=>rfl⟩
  kr:=fun i p hi=>by
   obtain ⟨a,h1,_⟩:=hr i p hi
   exact (List.getElem?_eq_some_iff.1 h1).1
  gL:=by simp [hlen]
  hY:=fun r hr=>by cases hr
  jq:=List.nodup_nil}
theorem AJ {is:List Nat} {j q i:Nat} (h:is[q]? =some i):iC is j q=i:=by unfold iC;rw [h]
theorem Lw {is:List Nat} {j q:Nat} (h:is.length≤q):iC is j q=j+(q-is.length):=by unfold iC;rw [List.getElem?_eq_none h]
end
end Go.Sy
namespace Go.Sy
open Go
def mY (is:List Nat) (j:Nat) (h h1:List Blk):List Blk:=eL h is ((h1.take is.length).map (Gw (iC is j)))
def fY (is:List Nat) (j:Nat) (h1:List Blk):List Blk:=(h1.drop is.length).map (Gw (iC is j))
section
variable {P:Program}
theorem AK {f:FuncId} {us:List SV} {v:SV} {is:List Nat} {l:List (List SV)} {h1:List Blk} (g:aj P f us (l.map fun ps=>.b (gG (fun b=>is.idxOf b) ps)) v h1) {h:List Blk} {vs:List SV} {t:Bool}
  (vP:is.Nodup) (hl:lP h is=some l) (AI:∀ps∈l,dP is ps=true) (Lv:t=true→∀ps∈l,kE ps=true) (habs:mX is (nU is h) vs=some (us,true,t))
  (hst:t=true→fo v=false∧∀b∈h1,iy b=false)
  {B:dA} {e:Env} {w:World} {args:List Value} {j:Nat} (hla:LR e vs args) (R:Rel B e h w) (hj:kg h j (h1.length-is.length)):
  Calls P f ⟨args⟩ w fun en w'=>∃v',en= .returned v'∧∃e2,VR e2 (lM (iC is j) v) v'∧Rel B e2 (bV (mY is j h h1) j (fY is j h1)) w'∧b6 e e2 none:=by
 obtain ⟨hlen,uV⟩:=kD hl
 have hal:=lB R (CF e w t) habs id hla
 have R0:=Gx R vP hl AI Lv
 refine (g _ _ w args (by simp [hlen]) hal R0).mono ?_
 rintro en w' ⟨v',rfl,e',_,hv,S⟩
 have hlt:∀{q i:Nat},is[q]? =some i→i<h.length:=fun {q i} hq=>by
  obtain ⟨ps,_,h4⟩:=uV q i hq
  exact (List.getElem?_eq_some_iff.1 h4).1
 have akI:is.length≤h1.length:=S.gL
 have r0:∀q,(qj e is (zC e w is t) (CF e w t)).r q=(is[q]?).bind e.r:=fun _=>rfl
 -- the abo places
 have AE:∀q p,e'.r q=some p→(∃i,is[q]? =some i∧e.r i=some p)∨w.heap.size≤p.n:=fun q p hq=>by
  rcases S.news q p hq with h|h
  ·exact .inl (Option.bind_eq_some_iff.1 h)
  ·exact .inr h
 have abp:∀{q i p},is[q]? =some i→e.r i=some p→e'.r q=some p:=fun {q i p} hq hp=>S.bg q p (by show (is[q]?).bind e.r=some p;rw [hq];exact hp)
 have rj:∀n,n<w.heap.size→(∀i p,i∈is→e.r i=some p→p.n≠n)→w'.heap[n]? =w.heap[n]? :=fun n hn hno=>S.old n hn (fun q p hq=>by
  obtain ⟨i,h1,h2⟩:=Option.bind_eq_some_iff.1 (show (is[q]?).bind e.r=some p from hq)
  exact hno i p (List.mem_of_getElem? h1) h2) (by simp)
 have Ex:∀{q i p p'},e'.r q=some p→e.r i=some p'→i ∉ is→p.n≠p'.n:=fun {q i p p'} hq hi hni heq=>by
  rcases AE q p hq with ⟨a,h1,h2⟩|h
  ·have:=R.inj a i p p' h2 hi heq
   subst this
   exact hni (List.mem_of_getElem? h1)
  ·have:=R.lt hi;omega
 have hen:e.n0≤w.heap.size:=by have:=R.n0;have:=R.cP;have:=R.size;omega
 have hn0:e'.n0=CF e w t:=S.n0
 have hnn:e.n0≤CF e w t:=by cases t<;>simp [CF,hen]
 let nn:=h1.length-is.length
 let z2:Nat→Option (Array Value×TypeId×(Nat×Nat)):=fun n=>if n<w.heap.size then e.z n else e'.z n
 let r2:Nat→Option Pl:=fun i=>if is.contains i=true then e'.r (is.idxOf i) else if j≤i∧i<j+nn then e'.r (is.length+(i-j)) else e.r i
 let e2:Env:=⟨r2,z2,e.n0,e.m,e.y⟩
 have idx:∀{q i},is[q]? =some i→is.contains i=true∧is.idxOf i=q:=fun {q i} hq=>by
  have hm:=List.mem_of_getElem? hq
  refine ⟨by simpa using hm,?_⟩
  have h1:=List.idxOf_lt_length_of_mem hm
  have h2:is[is.idxOf i]? =some i:=by rw [List.getElem?_eq_getElem h1];simp
  exact (List.getElem?_inj h1 vP).1 (h2.trans hq.symm)
 have Lx:∀i,j≤i∧i<j+nn→is.contains i=true→False:=fun i hi hc=>by
  have hm:i∈is:=by simpa using hc
  obtain ⟨q,hq⟩:=List.mem_iff_getElem?.1 hm
  obtain ⟨ps,_,h4⟩:=uV q i hq
  rcases hj with rfl|hg
  ·have:=hlt hq;omega
  ·have:=hg (i-j) (by show i-j<h1.length-is.length;omega)
   rw [show j+(i-j)=i by omega,h4] at this;cases this
 have P3:∀{q i},is[q]? =some i→r2 i=e'.r q:=fun {q i} hq=>by
  obtain ⟨h1,h2⟩:=idx hq
  show (if is.contains i=true then e'.r (is.idxOf i) else _)=_
  rw [if_pos h1,h2]
 have Ly:∀{i},j≤i∧i<j+nn→r2 i=e'.r (is.length+(i-j)):=fun {i} hi=>by
  show (if is.contains i=true then e'.r (is.idxOf i) else _)=_
  rw [if_neg (fun hc=>Lx i hi hc),if_pos hi]
 have Ey:∀{i},is.contains i≠true→¬(j≤i∧i<j+nn)→r2 i=e.r i:=fun {i} h1 h2=>by
  show (if is.contains i=true then e'.r (is.idxOf i) else _)=_
  rw [if_neg h1,if_neg h2]
 have Wm:∀{i p},e.r i=some p→¬(j≤i∧i<j+nn):=fun {i p} hp hi=>by
  rcases hj with rfl|hg
  ·have:=R.dom i p hp;omega
  ·have:=(R.gap i _ (by have:=hg (i-j) (by show i-j<h1.length-is.length;omega);rwa [show j+(i-j)=i by omega] at this)).1
   rw [hp] at this;cases this
 -- what a place is
 have u6:∀i p,r2 i=some p→(∃q,is[q]? =some i∧e'.r q=some p)∨((j≤i∧i<j+nn)∧e'.r (is.length+(i-j))=some p)∨(i ∉ is∧¬(j≤i∧i<j+nn)∧e.r i=some p):=fun i p hp=>by
  by_cases hc:is.contains i=true
  ·obtain ⟨q,hq⟩:=List.mem_iff_getElem?.1 (show i∈is by simpa using hc)
   rw [P3 hq] at hp
   exact .inl ⟨q,hq,hp⟩
  ·by_cases hn:j≤i∧i<j+nn
   ·rw [Ly hn] at hp;exact .inr (.inl ⟨hn,hp⟩)
   ·rw [Ey hc hn] at hp;exact .inr (.inr ⟨by simpa using hc,hn,hp⟩)
 have up:∀i p,e.r i=some p→r2 i=some p:=fun i p hp=>by
  by_cases hc:is.contains i=true
  ·obtain ⟨q,hq⟩:=List.mem_iff_getElem?.1 (show i∈is by simpa using hc)
   rw [P3 hq];exact abp hq hp
  ·rw [Ey hc (Wm hp)];exact hp
 have back:∀q p,e'.r q=some p→e2.r (iC is j q)=some p:=fun q p hq=>by
  rcases Nat.lt_or_ge q is.length with hlq|hlq
  ·have hi:is[q]? =some is[q]:=List.getElem?_eq_getElem hlq
   rw [AJ hi]
   show r2 is[q]=some p
   rw [P3 hi];exact hq
  ·rw [Lw hlq]
   have hd:=S.dom q p hq
   show r2 (j+(q-is.length))=some p
   rw [Ly ⟨by omega,by show _<j+(h1.length-is.length);omega⟩,show is.length+(j+(q-is.length)-j)=q by omega]
   exact hq
 have hle:Env.Le e e2:=⟨fun i p hp=>up i p hp,fun n x hx=>by
  show (if n<w.heap.size then e.z n else e'.z n)=some x
  rw [if_pos (R.Nt hx)];exact hx,Nat.le_refl _⟩
 let e1:Env:={e' with z:=z2}
 have zt:t=true→∀n x,e'.n0≤n→e'.z n=some x→z2 n=some x:=fun ht n x hn hx=>by
  show (if n<w.heap.size then e.z n else e'.z n)=some x
  rw [if_neg (by rw [hn0,ht] at hn;simp only [CF] at hn;omega)];exact hx
 have zf:t=false→∀n x,e'.z n=some x→z2 n=some x:=fun ht n x hx=>by
  show (if n<w.heap.size then e.z n else e'.z n)=some x
  by_cases hn:n<w.heap.size
  ·rw [if_pos hn]
   rcases S.aY n x hx with q|q
   ·have q':zC e w is t n=some x:=q
    rw [ht] at q';exact q'
   ·exact absurd q (by show ¬w.heap.size≤n;omega)
  ·rw [if_neg hn];exact hx
 have Lo:∀{u:SV} {u':Value},(t=true→fo u=false)→VR e' u u'→VR e1 u u':=fun {u u'} hs hu=>by
  by_cases ht:t=true
  ·exact VR.fresh (e:=e') (e':=e1) rfl (zt ht) (Nat.le_refl _) (hs ht) hu
  ·exact VR.mono' (e:=e') (e':=e1) (zf (by simpa using ht)) (Nat.le_refl _) u u' (fun _ _ _ h=>h) hu
 have Lq:∀{u:List SV} {u':List Value},(t=true→iu u=false)→PR e' u u'→PR e1 u u':=fun {u u'} hs hu=>by
  by_cases ht:t=true
  ·exact PR.fresh (e:=e') (e':=e1) rfl (zt ht) (Nat.le_refl _) (hs ht) hu
  ·exact PR.mono' (e:=e') (e':=e1) (zf (by simpa using ht)) (Nat.le_refl _) u u' (fun _ _ _ h=>h) hu
 have AG:e2.n0≤e1.n0:=by show e.n0≤e'.n0;omega
 refine ⟨v',rfl,e2,VR.lM (e:=e1) (e':=e2) (fun _ _ h=>h) AG v v' (fun q p _ hp=>back q p hp) (Lo (fun ht=>(hst ht).1) hv),?_,b6.of_le hle rfl _⟩
 have hbl:(mY is j h h1).length=h.length:=ou
 have pz:(fY is j h1).length=nn:=by simp [fY,nn]
 have SO:kg (mY is j h h1) j (fY is j h1).length:=by
  rw [pz]
  rcases hj with hj|hg
  ·exact .inl (by rw [hbl];exact hj)
  ·refine .inr fun i hi=>?_
   unfold mY
   rw [nH (fun hm=>Lx (j+i) ⟨by omega,by omega⟩ (by simpa using hm))]
   exact hg i hi
 -- what a block is
 have S6:∀(q i:Nat),(is[q]? =some i∨(is.length≤q∧(j≤i∧i<j+nn)∧q=is.length+(i-j)))→e2.r i=e'.r q∧(∀qs,h1[q]? =some (.b qs)→(aA (gG (iC is j) qs)=0∧e2.r i=none)∨∃p o,e2.r i=some p∧w'.heap[p.n]? =some o∧BR e2 p (gG (iC is j) qs) o)∧(∀g,h1[q]? =some (.g g)→e2.r i=none):=fun q i hqi=>by
  have yl:e2.r i=e'.r q:=by
   rcases hqi with hq|⟨_,hq,rfl⟩
   ·exact P3 hq
   ·exact Ly hq
  refine ⟨yl,fun qs hq=>?_,fun g hq=>by rw [yl];exact (S.gap q g hq).1⟩
  rcases S.fA q qs hq with ⟨g1,g2⟩|⟨p,o,g1,g2,c,ty,rfl,g3,g4,g5⟩
  ·exact .inl ⟨by rw [cG];exact g1,by rw [yl];exact g2⟩
  ·refine .inr ⟨p,_,by rw [yl];exact g1,g2,c,ty,rfl,g3,by rw [cG];exact g4,?_⟩
   rw [cG]
   exact PR.lM (e:=e1) (e':=e2) (fun _ _ h=>h) AG qs _ (fun b p _ hp=>back b p hp) (Lq (fun ht=>(hst ht).2 _ (List.mem_of_getElem? hq)) g5)
 have abr:∀(i:Nat) (b:Blk),(bV (mY is j h h1) j (fY is j h1))[i]? =some b→(∃q c,(is[q]? =some i∨(is.length≤q∧(j≤i∧i<j+nn)∧q=is.length+(i-j)))∧h1[q]? =some c∧b=Gw (iC is j) c)∨(i ∉ is∧¬(j≤i∧i<j+nn)∧h[i]? =some b):=fun i b hi=>by
  rw [lA SO,pz] at hi
  split at hi
  ·rename_i hc
   simp only [fY,List.getElem?_map,List.getElem?_drop] at hi
   obtain ⟨c,h2,h3⟩:=Option.map_eq_some_iff.1 hi
   exact .inl ⟨is.length+(i-j),c,.inr ⟨by omega,hc,rfl⟩,h2,h3.symm⟩
  ·rename_i hc
   by_cases hm:i∈is
   ·obtain ⟨q,hq⟩:=List.mem_iff_getElem?.1 hm
    have hql:=(List.getElem?_eq_some_iff.1 hq).1
    unfold mY at hi
    rw [uZ vP hq (hlt hq) (by simp;omega),List.getElem?_map,List.getElem?_take_of_lt hql] at hi
    obtain ⟨c,h2,h3⟩:=Option.map_eq_some_iff.1 hi
    exact .inl ⟨q,c,.inl hq,h2,h3.symm⟩
   ·unfold mY at hi
    rw [nH hm] at hi
    exact .inr ⟨hm,hc,hi⟩
 exact {
  os:=S.os.trans R.os,tape:=S.tape.trans R.tape,output:=S.output.trans R.output,size:=Nat.le_trans R.size S.size
  inj:=fun i i' p q hi hi' hpq=>by
   rcases u6 i p hi with ⟨a,h2,h3⟩|⟨h2,h3⟩|⟨h2,h4,h3⟩<;>rcases u6 i' q hi' with ⟨b,g2,g3⟩|⟨g2,g3⟩|⟨g2,g4,g3⟩
   ·have:=S.inj _ _ p q h3 g3 hpq
    subst this
    rw [h2] at g2;cases g2;rfl
   ·have:=S.inj _ _ p q h3 g3 hpq
    have:=(List.getElem?_eq_some_iff.1 h2).1
    omega
   ·exact absurd hpq (Ex h3 g3 g2)
   ·have:=S.inj _ _ p q h3 g3 hpq
    have:=(List.getElem?_eq_some_iff.1 g2).1
    omega
   ·have:=S.inj _ _ p q h3 g3 hpq
    omega
   ·exact absurd hpq (Ex h3 g3 g2)
   ·exact absurd hpq.symm (Ex g3 h3 h2)
   ·exact absurd hpq.symm (Ex g3 h3 h2)
   ·exact R.inj _ _ p q h3 g3 hpq
  dom:=fun i p hi=>by
   rcases u6 i p hi with ⟨a,h2,h3⟩|⟨h2,h3⟩|⟨h2,h4,h3⟩
   ·exact Nat.lt_of_lt_of_le (by rw [hbl];exact hlt h2) fq
   ·have:=wT SO (i:=i-j) (by rw [pz];omega)
    rwa [show j+(i-j)=i by omega] at this
   ·exact Nat.lt_of_lt_of_le (by rw [hbl];exact R.dom i p h3) fq
  sep:=fun i p hi=>by
   have key:∀q,e'.r q=some p→z2 p.n=none:=fun q hq=>by
    show (if p.n<w.heap.size then e.z p.n else e'.z p.n)=none
    split
    ·rename_i hlp
     rcases AE q p hq with ⟨a,_,h2⟩|h
     ·exact R.sep a p h2
     ·omega
    ·exact S.sep q p hq
   rcases u6 i p hi with ⟨a,h2,h3⟩|⟨h2,h3⟩|⟨h2,h4,h3⟩
   ·exact key _ h3
   ·exact key _ h3
   ·show (if p.n<w.heap.size then e.z p.n else e'.z p.n)=none
    rw [if_pos (R.lt h3)];exact R.sep i p h3
  gk:=fun n c ty fr hx=>by
   have hx':(if n<w.heap.size then e.z n else e'.z n)=some (c,ty,fr):=hx
   split at hx'
   ·rename_i hn
    rw [rj n hn (fun i p hi hp Lz=>by subst Lz;rw [R.sep i p hp] at hx';cases hx')]
    exact R.gk n c ty fr hx'
   ·exact S.gk n c ty fr hx'
  aY:=fun n x hx=>by
   have hx':(if n<w.heap.size then e.z n else e'.z n)=some x:=hx
   split at hx'
   ·exact R.aY n x hx'
   ·exact .inr (by have:=R.size;omega)
  news:=fun i p hi=>by
   have key:∀q,e'.r q=some p→(∀a,is[q]? =some a→a=i)→B.e.r i=some p∨B.w.heap.size≤p.n:=fun q hq ha=>by
    rcases AE q p hq with ⟨a,h1,h2⟩|h
    ·have:=ha a h1;subst this;exact R.news _ p h2
    ·exact .inr (Nat.le_trans R.size h)
   rcases u6 i p hi with ⟨a,h2,h3⟩|⟨h2,h3⟩|⟨h2,h4,h3⟩
   ·exact key a h3 fun b hb=>by rw [h2] at hb;cases hb;rfl
   ·exact key _ h3 fun b hb=>by have:=(List.getElem?_eq_some_iff.1 hb).1;omega
   ·exact R.news i p h3
  bg:=fun i p hi=>up i p (R.bg i p hi)
  bM:=fun n x hx=>hle.z n x (R.bM n x hx)
  n0:=R.n0,cP:=R.cP
  fA:=fun i ps hi=>by
   rcases abr i _ hi with ⟨q,c,hq,hc,hb⟩|⟨hni,Wn,hb⟩
   ·cases c with
    |g _=>cases hb
    |b qs=>
     simp only [Gw,Blk.b.injEq] at hb
     subst hb
     exact (S6 q i hq).2.1 qs hc
   ·have yl:e2.r i=e.r i:=Ey (by simpa using hni) Wn
    rcases R.fA i ps hb with ⟨g1,g2⟩|⟨p,o,g1,g2,g3⟩
    ·exact .inl ⟨g1,by rw [yl];exact g2⟩
    ·refine .inr ⟨p,o,by rw [yl];exact g1,?_,g3.mono hle⟩
     rw [rj p.n (R.lt g1) (fun a p' ha Ek Lz=>hni (by have:=R.inj a i p' p Ek g1 Lz;subst this;exact ha))]
     exact g2
  gap:=fun i g hi=>by
   rcases abr i _ hi with ⟨q,c,hq,hc,hb⟩|⟨hni,Wn,hb⟩
   ·cases c with
    |b qs=>cases hb
    |g g'=>
     simp only [Gw,Blk.g.injEq] at hb
     subst hb
     exact ⟨(S6 q i hq).2.2 _ hc,trivial⟩
   ·refine ⟨?_,(R.gap i g hb).2.le (fun n o hn=>?_) rfl hle⟩
    ·show r2 i=none
     rw [Ey (by simpa using hni) Wn];exact (R.gap i g hb).1
    ·rw [rj n (Array.getElem?_eq_some_iff.1 hn).1 (fun i p _ hp Lz=>by
      subst Lz
      obtain ⟨c,ty,hc,_⟩:=R.eU hp
      rw [hc] at hn;cases hn)]
     exact hn
  yi:=R.yi,yb:=R.yb
  old:=fun n hn hno pz=>by
   rw [rj n (by have:=R.size;omega) (fun i p hi hp Lz=>by
    rcases R.news i p hp with q|q
    ·exact hno i p q Lz
    ·omega)]
   exact R.old n hn hno pz
  win:=fun i p hi=>by
   obtain ⟨o,o',g1,g2,g3⟩:=R.win i p hi
   have hp:=R.bg i p hi
   by_cases hm:i∈is
   ·obtain ⟨q,hq⟩:=List.mem_iff_getElem?.1 hm
    obtain ⟨x,x',k1,k2,k3⟩:=S.win q p (by show (is[q]?).bind e.r=some p;rw [hq];exact hp)
    have k1':w.heap[p.n]? =some x:=k1
    rw [g2] at k1';cases k1'
    exact ⟨o,x',g1,k2,g3.trans k3⟩
   ·exact ⟨o,o',g1,by rw [rj p.n (R.lt hp) (fun a p' ha Ek Lz=>hm (by have:=R.inj a i p' p Ek hp Lz;subst this;exact ha))];exact g2,g3⟩
  kr:=R.kr
  gL:=by have:=R.gL;have:=fq (h:=mY is j h h1) (j:=j) (new:=fY is j h1);omega
  hY:=fun r hr=>by
   have hm:=R.hY r hr
   rw [rj r (Array.getElem?_eq_some_iff.1 hm.1).1 (fun i p _ hp Lz=>by
    subst Lz
    obtain ⟨c,ty,hc,_⟩:=R.eU hp
    have h9:=hm.1
    rw [hc] at h9;cases h9)]
   exact hm
  jq:=R.jq}
def Entry.mut (f:FuncId) (fn:Func) (hf:P.funcs[f]? =some fn) (hn:(fn.name != "runtime.NumGoroutine")=true) (hb:fn.body.isSome=true) (pick:List SV→List Blk→List Nat) (nb:Nat) (F:List SV→List Blk→Option (SV×List Blk×Bool))
  (ok:∀us h0 v h1,F us h0=some (v,h1,true)→aj P f us h0 v h1):Entry P where
 f:=f
 g:=fun vs h j=>match lP h (pick vs h),mX (pick vs h) (nU (pick vs h) h) vs with
  |some l,some (us,p,t)=>match decide (pick vs h).Nodup&&l.all (dP (pick vs h))&&(!t||l.all kE) with
   |true=>match F us (l.map fun ps=>.b (gG (fun b=>(pick vs h).idxOf b) ps)) with
    |some (v,h1,q)=>match t&&(fo v||h1.any iy) with
     |true=>none
     |false=>some (lM (iC (pick vs h) j) v,mY (pick vs h) j h h1,fY (pick vs h) j h1,aa p q)
    |none=>none
   |false=>none
  |_,_=>none
 pf:=2
 nb:=nb
 ok:=by
  intro vs h j v h' new g B e w args hla R hj
  generalize hpk:pick vs h=is at g
  split at g
  ·rename_i l us p t hl habs
   split at g
   ·rename_i hc
    simp only [Bool.and_eq_true,decide_eq_true_eq,List.all_eq_true] at hc
    obtain ⟨⟨vP,AI⟩,Lv⟩:=hc
    split at g
    ·rename_i u h1 q hF
     split at g
     ·cases g
     ·rename_i hs
      simp only [Option.some.injEq,Prod.mk.injEq,au] at g
      obtain ⟨rfl,rfl,rfl,rfl,rfl⟩:=g
      have Nv:fn.body≠none:=fun q=>by rw [q] at hb;cases hb
      refine .inr ⟨eK hf (by simpa using hn) Nv _ w,?_⟩
      refine AK (ok us _ u h1 hF) vP hl AI (fun ht ps hps=>?_) habs (fun ht=>?_) hla R (by simpa [fY] using hj)
      ·rw [ht] at Lv
       simp only [Bool.not_true,Bool.false_or,List.all_eq_true] at Lv
       exact Lv ps hps
      ·rw [ht,Bool.true_and,Bool.or_eq_false_iff] at hs
       refine ⟨hs.1,fun b hb=>?_⟩
       cases hq:iy b with
       |false=>rfl
       |true=>
        have:h1.any iy=true:=List.any_eq_true.2 ⟨b,hb,hq⟩
        rw [this] at hs;cases hs.2
    ·cases g
   ·cases g
  ·cases g
 pu:=⟨(fun h=>by cases h),(fun h=>by cases h)⟩
theorem AL {is:List Nat} {j:Nat}:∀{b:Nat},is.contains b=true→iC is j (is.idxOf b)=b:=fun hb=>AJ (yp hb)
mutual
theorem wW {is:List Nat} {j:Nat}:∀{v:SV},cY is v=true→lM (iC is j) (lM (fun b=>is.idxOf b) v)=v
 | .ptr b o i,h=>by simp only [cY] at h;simp only [lM,AL h]
 | .sl b o i z len cap ex wh,h=>by simp only [cY] at h;simp only [lM,AL h]
 | .agg ps,h=>by simp only [cY] at h;simp only [lM,gJ h]
 | .bk ps,h=>by simp only [cY] at h;simp only [lM,gJ h]
 | .iface t x,h=>by simp only [cY] at h;simp only [lM,wW h]
 | .fn f a b,h=>by simp only [cY,Bool.and_eq_true] at h;simp only [lM,gJ h.1,gJ h.2]
 | .bool _,_=>rfl
 | .int _ _,_=>rfl
 | .str _,_=>rfl
 | .nl _,_=>rfl
 | .ints _ _ _,_=>rfl
 | .ro _ _ _,_=>rfl
 | .hU _ _,_=>rfl
 | .qD _ _ _ _,_=>rfl
 | .pV _ _ _,_=>rfl
 | .s6 _ _ _,_=>rfl
 | .nR _ _ _ _ _ _ _,_=>rfl
theorem gJ {is:List Nat} {j:Nat}:∀{vs:List SV},dP is vs=true→gG (iC is j) (gG (fun b=>is.idxOf b) vs)=vs
 | [],_=>rfl
 |x::xs,h=>by
  simp only [dP,Bool.and_eq_true] at h
  simp only [gG,wW h.1,gJ h.2]
end
theorem sk:∀{h:List Blk} {is:List Nat} {bs:List Blk},(∀(q i:Nat),is[q]? =some i→bs[q]? =h[i]?)→is.Nodup→eL h is bs=h
 |_,[],_,_,_=>by simp [eL]
 |_,_::_,[],_,_=>by simp [eL]
 |h,a::is,b::bs,hq,hn=>by
  simp only [eL]
  have h0:h[a]? =some b:=(hq 0 a rfl).symm
  have hs:h.set a b=h:=by
   apply List.ext_getElem?
   intro x
   by_cases hx:a=x
   ·subst hx;rw [List.getElem?_set_self (List.getElem?_eq_some_iff.1 h0).1,h0]
   ·rw [List.getElem?_set_ne hx]
  rw [hs]
  exact sk (fun q i hi=>by simpa using hq (q+1) i (by simpa using hi)) (List.nodup_cons.1 hn).2
theorem P4 {is:List Nat} {h h2:List Blk} (hle:Gr h h2):Gr (nU is h) (nU is h2):=fun i ps hi=>by
 rw [qi] at hi ⊢
 cases hb:h[i]? with
 |none=>rw [hb] at hi;simp at hi
 |some b=>
  rw [hb] at hi
  cases b with
  |g o=>cases hc:is.contains i<;>rw [hc] at hi<;>simp at hi
  |b qs=>rw [hle i qs hb];exact hi
mutual
theorem Ez {is:List Nat} {h h2:List Blk} (hle:Gr h h2):∀{v:SV} {q:SV×Bool×Bool},dB is h v=some q→dB is h2 v=some q
 | .ptr _ _ _,q,g=>by simp only [dB] at g ⊢;exact g
 | .sl b o i z len cap ex wh,q,g=>by
  simp only [dB] at g ⊢
  split
  ·rename_i hc;rw [if_pos hc] at g;exact g
  ·rename_i hc;rw [if_neg hc] at g;exact fX hle g
 | .fn f a b,q,g=>by
  simp only [dB] at g ⊢
  split at g
  ·rename_i x p s y q' t ha hb;rw [qk hle ha,qk hle hb];exact g
  ·cases g
 | .agg ps,q,g=>by
  simp only [dB] at g ⊢
  split at g
  ·rename_i l p t hl;rw [qk hle hl];exact g
  ·cases g
 | .iface ty x,q,g=>by
  simp only [dB] at g ⊢
  split at g
  ·rename_i y p t hl;rw [Ez hle hl];exact g
  ·cases g
 | .bool _,q,g=>by simp only [dB] at g ⊢;exact fX hle g
 | .int _ _,q,g=>by simp only [dB] at g ⊢;exact fX hle g
 | .str _,q,g=>by simp only [dB] at g ⊢;exact fX hle g
 | .nl _,q,g=>by simp only [dB] at g ⊢;exact fX hle g
 | .ints _ _ _,q,g=>by simp only [dB] at g ⊢;exact fX hle g
 | .ro _ _ _,q,g=>by simp only [dB] at g ⊢;exact fX hle g
 | .hU _ _,q,g=>by simp only [dB] at g ⊢;exact fX hle g
 | .qD _ _ _ _,q,g=>by simp only [dB] at g ⊢;exact fX hle g
 | .pV _ _ _,q,g=>by simp [dB] at g
 | .s6 _ _ _,q,g=>by simp [dB] at g
 | .nR _ _ _ _ _ _ _,q,g=>by simp [dB] at g
 | .bk _,q,g=>by simp [dB] at g
theorem qk {is:List Nat} {h h2:List Blk} (hle:Gr h h2):∀{v:List SV} {q:List SV×Bool×Bool},mX is h v=some q→mX is h2 v=some q
 | [],q,g=>by simp only [mX] at g ⊢;exact g
 |x::xs,q,g=>by
  simp only [mX] at g ⊢
  split at g
  ·rename_i y p a l q' b hx hl
   rw [Ez hle hx,qk hle hl];exact g
  ·cases g
end
theorem AM {h h2:List Blk} (hle:Gr h h2):∀{is:List Nat} {l:List (List SV)},lP h is=some l→lP h2 is=some l
 | [],l,g=>g
 |i::is,l,g=>by
  simp only [lP] at g ⊢
  split at g
  ·rename_i ps l' h1 h2'
   rw [hle i ps h1,AM hle h2'];exact g
  ·cases g
def Entry.rdm (f:FuncId) (fn:Func) (hf:P.funcs[f]? =some fn) (hn:(fn.name != "runtime.NumGoroutine")=true) (hb:fn.body.isSome=true) (pick:List SV→List Nat) (F:List SV→List Blk→Option (SV×Bool))
  (ok:∀us h0 v,F us h0=some (v,true)→aj P f us h0 v h0):Entry P where
 f:=f
 g:=fun vs h j=>match lP h (pick vs),mX (pick vs) (nU (pick vs) h) vs with
  |some l,some (us,p,t)=>match decide (pick vs).Nodup&&l.all (dP (pick vs))&&(!t||l.all kE) with
   |true=>match F us (l.map fun ps=>.b (gG (fun b=>(pick vs).idxOf b) ps)) with
    |some (v,q)=>match t&&(fo v||(l.map fun ps=>Blk.b (gG (fun b=>(pick vs).idxOf b) ps)).any iy) with
     |true=>none
     |false=>some (lM (iC (pick vs) j) v,h,[],aa p q)
    |none=>none
   |false=>none
  |_,_=>none
 pf:=1
 nb:=0
 ok:=by
  intro vs h j v h' new g B e w args hla R hj
  generalize hpk:pick vs=is at g
  split at g
  ·rename_i l us p t hl habs
   split at g
   ·rename_i hc
    simp only [Bool.and_eq_true,decide_eq_true_eq,List.all_eq_true] at hc
    obtain ⟨⟨vP,AI⟩,Lv⟩:=hc
    split at g
    ·rename_i u q hF
     split at g
     ·cases g
     ·rename_i hs
      simp only [Option.some.injEq,Prod.mk.injEq,au] at g
      obtain ⟨rfl,rfl,rfl,rfl,rfl⟩:=g
      have Nv:fn.body≠none:=fun q=>by rw [q] at hb;cases hb
      obtain ⟨hlen,uV⟩:=kD hl
      refine .inr ⟨eK hf (by simpa using hn) Nv _ w,?_⟩
      have hnw:fY is j (l.map fun ps=>.b (gG (fun b=>is.idxOf b) ps))=[]:=by
       unfold fY
       rw [List.drop_eq_nil_of_le (by simp [hlen])];rfl
      have hbk:mY is j h (l.map fun ps=>.b (gG (fun b=>is.idxOf b) ps))=h:=by
       unfold mY
       refine sk (fun q i hi=>?_) vP
       obtain ⟨ps,h1,h2⟩:=uV q i hi
       have hq:q<is.length:=(List.getElem?_eq_some_iff.1 hi).1
       rw [List.getElem?_map,List.getElem?_take_of_lt hq,List.getElem?_map,h1,h2]
       simp only [Option.map_some,Gw,Option.some.injEq,Blk.b.injEq]
       exact gJ (AI ps (List.mem_of_getElem? h1))
      refine (AK (j:=j) (ok us _ u hF) vP hl AI (fun ht ps hps=>?_) habs (fun ht=>?_) hla R ?_).mono ?_
      ·rw [ht] at Lv
       simp only [Bool.not_true,Bool.false_or,List.all_eq_true] at Lv
       exact Lv ps hps
      ·rw [ht,Bool.true_and,Bool.or_eq_false_iff] at hs
       refine ⟨hs.1,fun b hb=>?_⟩
       cases hq:iy b with
       |false=>rfl
       |true=>
        have:(l.map fun ps=>Blk.b (gG (fun b=>is.idxOf b) ps)).any iy=true:=List.any_eq_true.2 ⟨b,hb,hq⟩
        rw [this] at hs;cases hs.2
      ·simpa [hlen] using hj
      ·rintro en w' ⟨v',rfl,e2,h1,h2,h3⟩
       rw [hbk,hnw] at h2
       exact ⟨v',rfl,e2,h1,h2,h3⟩
    ·cases g
   ·cases g
  ·cases g
 pu:=by
  refine ⟨(fun h=>by cases h),fun _ vs h j v h' new p g=>?_⟩
  split at g
  ·rename_i l us p1 t hl habs
   split at g
   ·rename_i hc
    split at g
    ·rename_i u q hF
     split at g
     ·cases g
     ·rename_i hs
      simp only [Option.some.injEq,Prod.mk.injEq] at g
      obtain ⟨rfl,rfl,rfl,rfl⟩:=g
      refine ⟨rfl,fun h2 hle=>?_⟩
      rw [AM hle hl,qk (P4 hle) habs]
      simp only
      rw [hc];simp only;rw [hF];simp only;rw [hs]
    ·cases g
   ·cases g
  ·cases g
end
end Go.Sy
namespace Go.Sy
open Go
theorem PE.aO (k:IntKind) (n:Nat) (l:List Int):PE [.ints k n l] [.ints k n (aO n l)]:=⟨rfl,fun e xs ⟨zs,h1,h2⟩=>⟨zs,h1,by rw [h2,Kw]⟩⟩
theorem VE.agg {ps qs:List SV} (h:PE ps qs):VE (.agg ps) (.agg qs):=fun e _ ⟨ys,h1,h2⟩=>⟨ys,h.2 e ys h1,h2⟩
theorem VE.refl (v:SV):VE v v:=fun _ _ h=>h
theorem PE.refl (ps:List SV):PE ps ps:=⟨rfl,fun _ _ h=>h⟩
def Yu:List SV→List SV→Prop
 | [],[]=>True
 |x::xs,y::ys=>VE x y∧Yu xs ys
 |_,_=>False
theorem Yu.get:∀{xs ys:List SV},Yu xs ys→xs.length=ys.length∧∀(i:Nat) (y:SV),ys[i]? =some y→∃x,xs[i]? =some x∧VE x y
 | [],[],_=>⟨rfl,fun i y h=>by simp at h⟩
 | [],_::_,h=>h.elim
 |_::_,[],h=>h.elim
 |x::xs,y::ys,⟨h1,h2⟩=>by
  obtain ⟨h3,h4⟩:=Yu.get h2
  refine ⟨by simp [h3],fun i z hi=>?_⟩
  cases i with
  |zero=>simp at hi;subst hi;exact ⟨x,rfl,h1⟩
  |succ i=>simp at hi;obtain ⟨u,h5,h6⟩:=h4 i z hi;exact ⟨u,by simpa using h5,h6⟩
def EA:List Blk→List Blk→Prop
 | [],[]=>True
 | .b ps::xs,.b qs::ys=>PE ps qs∧EA xs ys
 | .g a::xs,.g b::ys=>a=b∧EA xs ys
 |_,_=>False
theorem EA.get:∀{xs ys:List Blk},EA xs ys→xs.length=ys.length∧(∀(i:Nat) (qs:List SV),ys[i]? =some (.b qs)→∃ps,xs[i]? =some (.b ps)∧PE ps qs)∧(∀(i:Nat) (g:Option Lp),ys[i]? =some (.g g)→xs[i]? =some (.g g))
 | [],[],_=>⟨rfl,(fun i y h=>by simp at h),fun i g h=>by simp at h⟩
 | .b ps::xs,.b qs::ys,⟨h1,h2⟩=>by
  obtain ⟨h3,h4,h5⟩:=EA.get h2
  refine ⟨by simp [h3],fun i z hi=>?_,fun i g hi=>?_⟩
  ·cases i with
   |zero=>simp at hi;subst hi;exact ⟨ps,rfl,h1⟩
   |succ i=>simp at hi;obtain ⟨u,h5,h6⟩:=h4 i z hi;exact ⟨u,by simpa using h5,h6⟩
  ·cases i with
   |zero=>simp at hi
   |succ i=>simp at hi;simpa using h5 i g hi
 | .g a::xs,.g b::ys,⟨h1,h2⟩=>by
  subst h1
  obtain ⟨h3,h4,h5⟩:=EA.get (xs:=xs) (ys:=ys) h2
  refine ⟨by simp [h3],fun i z hi=>?_,fun i g hi=>?_⟩
  ·cases i with
   |zero=>simp at hi
   |succ i=>simp at hi;obtain ⟨u,h5,h6⟩:=h4 i z hi;exact ⟨u,by simpa using h5,h6⟩
  ·cases i with
   |zero=>simp at hi ⊢;exact hi
   |succ i=>simp at hi;simpa using h5 i g hi
 | [],_::_,h=>by simp [EA] at h
 |_::_,[],h=>by simp [EA] at h
 | .b _::_,.g _::_,h=>by simp [EA] at h
 | .g _::_,.b _::_,h=>by simp [EA] at h
theorem aU.ZT {k:Nat} {t:List (Option SV)} {h h':List Blk} {o o':Bool} (g:EA h h'):aU k ⟨t,h,o⟩ ⟨t,h',o'⟩:=by
 obtain ⟨h1,h2,h3⟩:=g.get
 exact aU.mono rfl (fun i v' hi=>⟨v',hi,VE.refl _⟩) h1.symm h2 h3
theorem aU.all {k:Nat} {as bs:List SV} {h h':List Blk} {o o':Bool} (ga:Yu as bs) (g:EA h h'):aU k ⟨as.map some,h,o⟩ ⟨bs.map some,h',o'⟩:=by
 obtain ⟨h1,h2,h3⟩:=g.get
 obtain ⟨g1,g2⟩:=ga.get
 refine aU.mono (by simp [g1]) (fun i v' hi=>?_) h1.symm h2 h3
 rw [List.getElem?_map] at hi
 obtain ⟨y,hy,q⟩:=Option.map_eq_some_iff.1 hi
 cases q
 obtain ⟨x,hx,hv⟩:=g2 i v' hy
 exact ⟨x,by simp [hx],hv⟩
section
variable {P:Program}
theorem aP {Γ:bK} (hΓ:ag P Γ) (n:Nat) {f:FuncId} {fn:Func} (hf:P.funcs[f]? =some fn) {args:List SV} {v:SV} {p:Bool} (e:(bE P Γ n fn args []).map (fun x=>(x.1,x.2.2))=some (v,p)) (hp:p=true) (hr:cY [] v=true):aj P f args [] v []:=by
 obtain ⟨⟨u,h1,q⟩,he,e⟩:=Option.map_eq_some_iff.1 e
 simp only [Prod.mk.injEq] at e
 obtain ⟨rfl,rfl⟩:=e
 subst hp
 have key:∀u:SV,lM (fun b=>([]:List Nat).idxOf b) u=u∨True:=fun _=>.inr trivial
 refine (aj.dU hΓ hf he).post (aU.trans (aU.fN (n:=0) (s':=⟨[some u],[],true⟩) (Nat.le_refl _) ?_) (aU.refl _ _))
 unfold St.fN
 rw [if_pos]
 ·rfl
 ·simp only [List.range_zero,List.all_cons,List.all_nil,Bool.and_true,List.take_zero,hr]
theorem dF {Γ:bK} (hΓ:ag P Γ) (n:Nat) {f:FuncId} {fn:Func} (hf:P.funcs[f]? =some fn) {args:List SV} {h h1:List Blk} {v:SV} {p:Bool} (m:Nat) (hm:h.length≤m)
  (e:(bE P Γ n fn args h).map (fun x=>(x.1,x.2.1.take m,x.2.2))=some (v,h1,p)) (hp:p=true) (hr:cY (List.range m) v=true) (hb:h1.all (Lt m)=true):aj P f args h v h1:=by
 obtain ⟨⟨u,h2,q⟩,he,e⟩:=Option.map_eq_some_iff.1 e
 simp only [Prod.mk.injEq] at e
 obtain ⟨rfl,rfl,rfl⟩:=e
 subst hp
 refine (aj.dU hΓ hf he).post (aU.fN (n:=m) hm ?_)
 unfold St.fN
 rw [if_pos]
 simp only [List.all_cons,List.all_nil,Bool.and_true,hr,hb]
theorem aj.conv {f:FuncId} {as bs:List SV} {h h2 h1 h3:List Blk} {v u:SV} (g:aj P f bs h2 v h1) (ga:Yu as bs) (gh:EA h h2) (gv:VE v u) (gh':EA h1 h3):aj P f as h u h3:=by
 have hlen:=gh.get.1
 refine (aj.pre g hlen (aU.all ga gh)).post ?_
 exact aU.all (as:=[v]) (bs:=[u]) ⟨gv,trivial⟩ gh'
theorem aj.cg {Γ:bK} (hΓ:ag P Γ) (n m j:Nat) {f:FuncId} {fn:Func} (hf:P.funcs[f]? =some fn) {args:List SV} {h h':List Blk} {s:St} {v:SV} {p:Bool} (hj:h.length≤j) (hb:fn.body.isSome=true)
  (ht:∀s' x,aG P none h.length ((atoms (aH fn)).drop m) s x s'→aG P none h.length (atoms (aH fn)) ⟨aT fn.ntmps args,h,true⟩ x s')
  (e:((nY P Γ n h.length ((atoms (aH fn)).drop m) s).bind fun r=>match r.1 with
   | .ret| .normal=>(j0 P r.2.t r.2.h fn.results.toList).map fun q=>(oneOf q.1,r.2.h.take j,aa r.2.ob q.2)
   |_=>none)=some (v,h',p)) (hp:p=true) (hr:cY (List.range j) v=true) (hbl:h'.all (Lt j)=true):aj P f args h v h':=by
 obtain ⟨⟨x,s'⟩,h1,e⟩:=Option.bind_eq_some_iff.1 e
 subst hp
 have key:∀(_:x= .ret∨x= .normal),((j0 P s'.t s'.h fn.results.toList).map fun q=>(oneOf q.1,s'.h.take j,aa s'.ob q.2))=some (v,h',true)→aj P f args h v h':=fun hx e=>by
  obtain ⟨⟨vs,q⟩,hres,e⟩:=Option.map_eq_some_iff.1 e
  simp only [Prod.mk.injEq,au] at e
  obtain ⟨rfl,rfl,fu,rfl⟩:=e
  refine (aj.mk hf hb (ht s' x (aG.rest hΓ n h1 fu)) hx hres).post (aU.fN (n:=j) hj ?_)
  unfold St.fN
  rw [if_pos]
  simp only [List.all_cons,List.all_nil,Bool.and_true,hr,hbl]
 cases x<;>simp only at e<;>first|exact key (by simp) e|cases e
end
end Go.Sy
namespace Go.Sy
open Go
section
variable {P:Program} {B:dA} {e:Env} {h:List Blk} {w:World}
def Env.enter (e:Env) (h:List Blk) (n:Nat):Env:={e with m:=n::e.m,y:=fun i=>if i=h.length then some (n+1) else match nS h i with|some _=>e.y i|none=>none}
theorem u7 (e:Env) (h:List Blk) (n:Nat):Env.Le e (e.enter h n):=⟨fun _ _ h=>h,fun _ _ h=>h,Nat.le_refl _⟩
theorem P5 {i n:Nat} {L:Lp} (g:h[i]? =some (.g (some L))):(e.enter h n).y i=e.y i:=by
 show (if i=h.length then some (n+1) else match nS h i with|some _=>e.y i|none=>none)=e.y i
 rw [if_neg (by have:=(List.getElem?_eq_some_iff.1 g).1;omega),Ew g]
theorem u9 (R:Rel B e h w) {i n m:Nat} (g:(e.enter h n).y i=some m):(i=h.length∧m=n+1)∨(i<h.length∧e.y i=some m∧m<w.heap.size):=by
 have g':(if i=h.length then some (n+1) else match nS h i with|some _=>e.y i|none=>none)=some m:=g
 split at g'
 ·rename_i hi;cases g';exact .inl ⟨hi,rfl⟩
 ·split at g'
  ·rename_i L hL
   have hL:=lu hL
   obtain ⟨_,h1,r,h2,_⟩:=R.gap i _ hL
   rw [g'] at h1;cases h1
   exact .inr ⟨(List.getElem?_eq_some_iff.1 hL).1,g',(Array.getElem?_eq_some_iff.1 h2).1⟩
  ·cases g'
theorem Rel.enter (R:Rel B e h w) {t:List (Option SV)} {t':List Value} (hl:TR e t t') (fn:FuncId) (ps:Array Tmp) (pP body:Code):
  Rel B (e.enter h w.heap.size) (h++[.g (some ⟨w.heap.size+1,t,ps,pP,body,.ready,none⟩)]) ((w.alloc (.deferred (some []))).alloc (.loop {state:=.ready,pending:=none,fn,tmps:=⟨t'⟩,params:=ps,assign:=pP,body,defers:=w.heap.size})):=by
 generalize z7:Obj.loop {state:=.ready,pending:=none,fn,tmps:=⟨t'⟩,params:=ps,assign:=pP,body,defers:=w.heap.size}=ob
 have hold:∀n,n<w.heap.size→((w.alloc (.deferred (some []))).alloc ob).heap[n]? =w.heap[n]? :=fun n hn=>(heap_alloc_old _ _ n (by rw [World.size_alloc];omega)).trans (heap_alloc_old w _ n hn)
 have hd:((w.alloc (.deferred (some []))).alloc ob).heap[w.heap.size]? =some (.deferred (some [])):=(heap_alloc_old _ _ _ (by rw [World.size_alloc];omega)).trans (heap_alloc_new w _)
 have hlp:((w.alloc (.deferred (some []))).alloc ob).heap[w.heap.size+1]? =some ob:=by
  have:=heap_alloc_new (w.alloc (.deferred (some []))) ob
  rwa [World.size_alloc] at this
 have le:=u7 e h w.heap.size
 have get:∀(i:Nat) (b:Blk),(h++[.g (some ⟨w.heap.size+1,t,ps,pP,body,.ready,none⟩)])[i]? =some b→(i<h.length∧h[i]? =some b)∨(i=h.length∧b= .g (some ⟨w.heap.size+1,t,ps,pP,body,.ready,none⟩)):=fun i b hi=>by
  rcases Nat.lt_or_ge i h.length with h1|h1
  ·rw [List.getElem?_append_left h1] at hi;exact .inl ⟨h1,hi⟩
  ·rw [List.getElem?_append_right h1] at hi
   have:=(List.getElem?_eq_some_iff.1 hi).1
   simp at this
   have hq:i=h.length:=by omega
   subst hq
   simp at hi
   exact .inr ⟨rfl,hi.symm⟩
 exact {
  os:=R.os,tape:=R.tape,output:=R.output
  size:=by have:=R.size;rw [World.size_alloc,World.size_alloc];omega
  inj:=R.inj,dom:=fun i p hi=>by have:=R.dom i p hi;simp;omega
  sep:=R.sep
  gk:=fun n c ty fr hz=>by rw [hold n (R.Nt hz)];exact R.gk n c ty fr hz
  aY:=R.aY,news:=R.news,bg:=R.bg,bM:=R.bM,n0:=R.n0,cP:=R.cP
  fA:=fun i qs hi=>by
   rcases get i _ hi with ⟨h1,h2⟩|⟨_,h2⟩
   ·rcases R.fA i qs h2 with g|⟨p,o,hq,ho,VV⟩
    ·exact .inl g
    ·exact .inr ⟨p,o,hq,by rw [hold p.n (R.lt hq)];exact ho,VV.mono le⟩
   ·cases h2
  gap:=fun i g hi=>by
   rcases get i _ hi with ⟨h1,h2⟩|⟨h1,h2⟩
   ·refine ⟨(R.gap i g h2).1,?_⟩
    have hg:=(R.gap i g h2).2
    cases g with
    |none=>trivial
    |some L=>exact hg.le (fun n o hn=>by rw [hold n (Array.getElem?_eq_some_iff.1 hn).1];exact hn) (P5 h2) le
   ·cases h2
    refine ⟨?_,?_,_,by rw [hlp, ←z7],rfl,rfl,rfl,rfl,rfl,hl.mono le⟩
    ·cases hq:e.r i with
     |none=>exact hq
     |some p=>have:=R.dom _ p hq;omega
    ·show (if i=h.length then _ else _)=_
     rw [if_pos h1]
  yi:=fun i j n hi hj=>by
   rcases u9 R hi with ⟨h1,h2⟩|⟨h1,h2,h3⟩<;>rcases u9 R hj with ⟨g1,g2⟩|⟨g1,g2,g3⟩
   ·omega
   ·omega
   ·omega
   ·exact R.yi i j n h2 g2
  yb:=fun i n hi=>by
   rcases u9 R hi with ⟨h1,h2⟩|⟨h1,h2,h3⟩
   ·exact .inr (by have:=R.size;omega)
   ·exact R.yb i n h2
  old:=fun n hn hno pz=>by rw [hold n (by have:=R.size;omega)];exact R.old n hn hno pz
  win:=fun i p hi=>by
   obtain ⟨o,o',h1,h2,h3⟩:=R.win i p hi
   exact ⟨o,o',h1,by rw [hold p.n (R.lt (R.bg i p hi))];exact h2,h3⟩
  kr:=R.kr
  gL:=by have:=R.gL;simp;omega
  hY:=fun r hr=>by
   rcases List.mem_cons.1 hr with rfl|hr
   ·exact ⟨hd,R.size⟩
   ·have:=R.hY r hr
    exact ⟨by rw [hold r (Array.getElem?_eq_some_iff.1 this.1).1];exact this.1,this.2⟩
  jq:=List.nodup_cons.2 ⟨fun hm=>by have:=(Array.getElem?_eq_some_iff.1 (R.hY _ hm).1).1;omega,R.jq⟩}
theorem Rel.LA (R:Rel B e h w) {i:Nat} {g:Option Lp} (hi:h[i]? =some (.g g)):Rel B e (h.set i .gap) w:={R with
 dom:=fun j p hj=>by simpa using R.dom j p hj
 fA:=fun j ps hj=>by
  by_cases hij:i=j
  ·subst hij;rw [List.getElem?_set_self (List.getElem?_eq_some_iff.1 hi).1] at hj;cases hj
  ·rw [List.getElem?_set_ne hij] at hj;exact R.fA j ps hj
 gap:=fun j g' hj=>by
  by_cases hij:i=j
  ·subst hij;rw [List.getElem?_set_self (List.getElem?_eq_some_iff.1 hi).1] at hj;cases hj;exact ⟨(R.gap i g hi).1,trivial⟩
  ·rw [List.getElem?_set_ne hij] at hj;exact R.gap j g' hj
 gL:=by simpa using R.gL}
end
section
variable {P:Program}
theorem Tr.range {k:Nat} {g:Operand} {ps:Array Tmp} {pP body:Code} {f:FuncId} {fn:Func} {first jX:List SV} {s:St} {v:SV} {h1:Nat→List Blk} {hf:List Blk} {q:Option Code} {x:Exit} (ob:Bool)
  (hfn:P.funcs[f]? =some fn) (hn:(fn.name != "runtime.NumGoroutine")=true) (hb:fn.body.isSome=true) (hg:ev s.t g=some (.fn (.func f) first jX))
  (kC:∀l,aj P f (first++[.fn (.yield l) [] []]++jX) (s.h++[.g (some ⟨l,s.t,ps,pP,body,.ready,none⟩)]) v (h1 l))
  (hL:∀l,∃L,nS (h1 l) s.h.length=some L∧L.l=l∧L.st≠.busy∧L.fc=q) (hh:∀l,(h1 l).set s.h.length .gap=hf) (hx:qT x=some q):
  Tr P none k (.rangeFunc g ps pP body) s x ⟨s.t,hf,ob⟩:=by
 intro B e w t' d Q nn hB hl R hQ
 refine wpIn_rangeFunc fun abt _=>?_
 have R1:=R.enter hl abt ps pP body
 generalize hW:(w.alloc (.deferred (some []))).alloc (.loop {state:=.ready,pending:=none,fn:=abt,tmps:=⟨t'⟩,params:=ps,assign:=pP,body,defers:=w.heap.size})=W1 at R1
 obtain ⟨ys,us,hy,hu,hgv⟩:=aM (d:=Yt e.m++d) hl hg
 have hargs:LR (e.enter s.h w.heap.size) (first++[.fn (.yield (w.heap.size+1)) [] []]++jX) (ys++[.func (.yield (w.heap.size+1)) #[] #[]]++us):=
  ((hy.mono (u7 e _ _)).append (LR.one (show VR (e.enter s.h w.heap.size) (.fn (.yield (w.heap.size+1)) [] []) (.func (.yield (w.heap.size+1)) #[] #[]) from ⟨[],[],rfl,rfl,rfl⟩))).append (hu.mono (u7 e _ _))
 have Nv:fn.body≠none:=fun q=>by rw [q] at hb;cases hb
 have Wo:=eK hfn (by simpa using hn) Nv ⟨ys++[.func (.yield (w.heap.size+1)) #[] #[]]++us⟩ W1
 refine ⟨w.heap.size+1,[{target:=.collected w.heap.size,args:=#[]}],W1,{target:=.fn (.func f) ⟨us⟩,args:=⟨ys++[.func (.yield (w.heap.size+1)) #[] #[]]⟩},W1,f,⟨ys++[.func (.yield (w.heap.size+1)) #[] #[]]++us⟩,W1,?_,?_,fun _ _=>trivial,?_,fun h=>by simp [wF,Fence.wide] at h,oQ.2 ?_⟩
 ·rw [←hW];exact run_enterLoop_outer _ _ _ _ _
 ·simp only [resolve,hgv,Deferred.ofValue,Sem.run_pure]
  congr 2
  apply Array.ext'
  simp [Act.eval]
 ·simp only [invoke]
  rw [←Wo]
  congr 2
  apply Array.ext'
  simp
 ·refine (kC (w.heap.size+1) _ _ W1 _ (Nat.le_refl _) (hargs.mono (nG _ _)) R1.self).mono ?_
  rintro en w' ⟨v',rfl,e',_,hv,S⟩
  have T:=R1.trans S
  obtain ⟨L,age,hLl,agf,hLp⟩:=hL (w.heap.size+1)
  have P0:=lu age
  obtain ⟨_,_,r,hr,_,_,_,hst,hpd,_⟩:=T.gap _ _ P0
  have T2:=T.qe P0 hr .exhausted L.fc
  have T3:=T2.LA (i:=s.h.length) (List.getElem?_set_self (List.getElem?_eq_some_iff.1 P0).1)
  rw [List.set_set,hh] at T3
  rw [hLl] at hr
  refine ⟨r.pending,_,run_endLoop hr (by rw [hst];exact agf),?_⟩
  have hpq:r.pending=q:=hpd.trans hLp
  have le:Env.Le e {e' with m:=(e.enter s.h w.heap.size).m}:=⟨fun i p hp=>S.bg i p hp,fun n o ho=>S.bM n o ho,by show e'.n0≤e.n0;rw [S.n0];exact Nat.le_refl _⟩
  have fin:=hQ {e' with m:=(e.enter s.h w.heap.size).m} _ t' (hl.mono le) T3
  have hpe:L.fc=r.pending:=hLp.trans hpq.symm
  rw [hpe,hLl] at fin
  rw [hpq]
  rw [hpq] at fin
  cases x<;>simp only [qT,Option.some.injEq,reduceCtorEq] at hx<;>subst hx
  ·rw [←hpq];rw [hpq];exact fin
  ·exact wpIn_exit fin
  ·exact wpIn_ret fin
def abu (id:Nat):Code→Bool
 | .block j (.rangeFunc _ _ _ _)=>j==id
 |_=>false
def rfG:Code→Operand
 | .rangeFunc g _ _ _=>g
 |_=>.const .nilFunc
def rfP:Code→Array Tmp
 | .rangeFunc _ ps _ _=>ps
 |_=>#[]
noncomputable def rfA:Code→Code
 | .rangeFunc _ _ a _=>a
 |_=>.skip
noncomputable def ZH:Code→Code
 | .rangeFunc _ _ _ b=>b
 |_=>.skip
noncomputable def Dl (c:Code) (t:List (Option SV)) (l:Nat):Lp:=⟨l,t,rfP (inner c),rfA (inner c),ZH (inner c),.ready,none⟩
theorem Tr.xk (id:Nat) {k:Nat} {c:Code} (hc:abu id c=true) {f:FuncId} {fn:Func} {first jX:List SV} {s:St} {v:SV} {h1:Nat→List Blk} {hf:List Blk} (ob:Bool)
  (hfn:P.funcs[f]? =some fn) (hn:(fn.name != "runtime.NumGoroutine")=true) (hb:fn.body.isSome=true) (hg:ev s.t (rfG (inner c))=some (.fn (.func f) first jX))
  (kC:∀l,aj P f (first++[.fn (.yield l) [] []]++jX) (s.h++[.g (some (Dl c s.t l))]) v (h1 l))
  (hL:∀l,∃L,nS (h1 l) s.h.length=some L∧L.l=l∧L.st≠.busy∧L.fc=none) (hh:∀l,(h1 l).set s.h.length .gap=hf):
  Tr P none k c s .normal ⟨s.t,hf,ob⟩:=by
 cases c<;>simp only [abu,Bool.false_eq_true] at hc
 rename_i j b
 cases b<;>simp only [Bool.false_eq_true] at hc
 exact Tr.aQ (Tr.range ob hfn hn hb hg kC hL hh rfl) (by simp)
end
end Go.Sy
