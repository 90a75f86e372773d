/- This file ties the interpreter's calls to a row's statement: a law called with what came in returns what is reckoned, and writes nothing that was there. Conditions: what came in reads as data. -/
import Derived.Test.YthlnlcijnoadcaaGreatDoorBMc
import Derived.Below
import Derived.WideShapes
set_option linter.all false
namespace Go.Sy
open Go
def Glb (w:World):Prop:=∀(g:Nat) (k:IntKind) (xs:List Int),gint g=some (k,xs)→∃c t fr,w.heap[g]? =some (.cells c t fr)∧intsV k xs=c.toList.take xs.length
theorem Rel.start (w:World) (hg:Glb w:=by intro _ _ _ h;cases h):Rel ⟨w,env0 (allZ w) w.heap.size,0,[]⟩ (env0 (allZ w) w.heap.size) [] w where
 os:=rfl
 tape:=rfl
 output:=rfl
 size:=Nat.le_refl _
 inj:=fun i j p q hi=>by cases hi
 dom:=fun i p hi=>by cases hi
 sep:=fun i p hi=>by cases hi
 zok:=fun n c ty fr hx=>allZ_heap hx
 zfresh:=fun _ _ hx=>.inl hx
 glb:=fun g k xs h=>(hg g k xs h).imp fun c ⟨t,fr,h1,h2⟩=>⟨t,fr,allZ_eq h1,h2⟩
 news:=fun _ _ hi=>.inl hi
 keepr:=fun _ _ hi=>hi
 keepz:=fun _ _ hx=>hx
 n0:=rfl
 n0le:=Nat.le_refl _
 blk:=fun i ps hi=>by simp at hi
 gap:=fun i g hi=>by simp at hi
 yi:=fun i j n hi=>by cases hi
 yb:=fun i n hi=>by cases hi
 old:=fun _ _ _ _=>rfl
 win:=fun i p hi=>by cases hi
 kr:=fun i p hi=>by cases hi
 kle:=Nat.le_refl _
 mks:=fun r hr=>by cases hr
 mnd:=List.nodup_nil
section
variable {P:Program}
theorem FnTr.below {f:FuncId} {args:List SV} {args':List Value} {h':List Blk} {b:Bool} (g:FnTr P f args [] (.bool b) h') {w:World} (hl:LR (env0 (allZ w) w.heap.size) args args') (hg:Glb w:=by intro _ _ _ h;cases h):
  Calls P f ⟨args'⟩ w fun e w'=>e= .returned (.bool b)∧Go.RowKit.Below w.heap.size w w':=by
 refine (g _ _ w args' (Nat.le_refl _) hl (Rel.start w hg)).mono ?_
 rintro x w' ⟨v',rfl,e',_,hv,R'⟩
 rw [VR] at hv
 subst hv
 exact ⟨rfl,R'.os,R'.tape,R'.output,R'.size,fun n hn=>R'.old n hn (fun i p hi=>by cases hi) (by simp)⟩
theorem agg_ints {w:World} {r:Reach} {base:Nat} {t:TypeId} {v:Value} {k:IntKind} {n:Nat} (ha:(P.underlying t).map (fun| .struct _=>true| .array _ _=>true|_=>false)=some true)
  (hc:(P.cellTypes P.depth t).map (fun ts=>ts.all fun u=>isInt P u==some k)=some true) (hn:P.cellsOf t=n) (h:Value.okWide P w r base t v):
  ∃zs:List Int,v= .agg ⟨intsV k zs⟩∧zs.length=n∧∀z∈zs,k.has z:=by
 have h':∃cs,v= .agg cs∧cs.size=P.cellsOf t∧Row.okWide P w r base t cs:=by
  unfold Value.okWide at h
  cases hu:P.underlying t with
  |none=>rw [hu] at ha;cases ha
  |some u=>rw [hu] at ha h;cases u<;>first|exact h|(cases ha;done)
 obtain ⟨cs,rfl,hs,ts,hts,_,hall⟩:=h'
 rw [hts] at hc
 simp only [Option.map_some,Option.some.injEq,List.all_eq_true,beq_iff_eq] at hc
 have cell:∀(i:Nat) (v:Value),cs[i]? =some v→∃z:Int,v=Value.int k z∧k.has z:=fun i v hi=>by
  obtain ⟨u,hu,hok⟩:=hall i v hi
  have hk:=hc u (List.mem_of_getElem? hu)
  have hk':P.underlying u=some (.int k):=by
   unfold isInt at hk
   split at hk
   ·rename_i hx;cases hk;exact hx
   ·cases hk
  simp only [Cell.okWide,hk',Cell.ok] at hok
  cases v<;>simp_all
 have hex:∀l:List Value,(∀v∈l,∃z:Int,v=Value.int k z∧k.has z)→∃zs:List Int,l=intsV k zs∧∀z∈zs,k.has z:=by
  intro l
  induction l with
  |nil=>intro _;exact ⟨[],rfl,by simp⟩
  |cons a l ih=>
   intro hl
   obtain ⟨z,rfl,hz⟩:=hl a (by simp)
   obtain ⟨zs,rfl,hzs⟩:=ih fun v hv=>hl v (by simp [hv])
   refine ⟨z::zs,rfl,fun y hy=>?_⟩
   rcases List.mem_cons.1 hy with rfl|hy
   ·exact hz
   ·exact hzs y hy
 obtain ⟨zs,hzs,hk⟩:=hex cs.toList fun v hv=>by
  obtain ⟨i,hi⟩:=List.mem_iff_getElem?.1 hv
  exact cell i v (by simpa using hi)
 refine ⟨zs,by rw [←hzs],?_,hk⟩
 have:=congrArg List.length hzs
 rw [intsV_length] at this
 simp at this
 omega
theorem win_of_cells {w:World} {a:Addr} {c:Array Value} {t:TypeId} {fr:Nat×Nat} {k:IntKind} {zs:List Int} (hb:w.heap[a.block]? =some (.cells c t fr)) (hs:a.spot=none)
  (hc:∀i,i<zs.length→w.cell? (a.add i)=some (.int k (zs.getD i 0))):intsV k zs=(c.toList.drop a.off).take zs.length:=by
 have key:∀i,i<zs.length→c.toList[a.off+i]? =some (.int k (zs.getD i 0)):=fun i hi=>by
  have h:=hc i hi
  unfold World.cell? Addr.add at h
  split at h
  ·rename_i c' t' fr' hb'
   split at hb'
   ·rename_i h0
    subst h0
    rw [hb] at hb'
    cases hb'
    simp only [if_true,hs] at h
    simpa using h
   ·simp only [hb,Option.some.injEq,Obj.cells.injEq] at hb'
    obtain ⟨rfl,rfl,rfl⟩:=hb'
    rename_i hi0
    rw [if_neg hi0] at h
    simpa using h
  ·cases h
 apply List.ext_getElem?
 intro i
 simp only [intsV,List.getElem?_map,List.getElem?_take,List.getElem?_drop]
 by_cases hi:i<zs.length
 ·rw [if_pos hi,key i hi]
  simp [List.getD,List.getElem?_eq_getElem hi]
 ·rw [if_neg hi,List.getElem?_eq_none (by omega)];rfl
theorem block_of_wide {w:World} {r:Reach} {base:Nat} {t e:TypeId} {a:Addr} {len cap:Nat} (ht:P.underlying t=some (.slice e)) (h:Value.okWide P w r base t (.slice (some a) len cap)):
  len≤cap∧a.spot=none∧∃c t' fr,w.heap[a.block]? =some (.cells c t' fr):=by
 simp only [Value.okWide,ht,Cell.okWide,Cell.ok,World.has] at h
 obtain ⟨hl,_,_,hs,row,cells,hsh,_⟩:=h
 refine ⟨hl,hs,?_⟩
 unfold World.shape? at hsh
 split at hsh
 ·rename_i c el fr hb
  exact ⟨c,el,fr,hb⟩
 ·simp at hsh
theorem RoI.of_cells {w:World} {a:Addr} {c:Array Value} {t:TypeId} {fr:Nat×Nat} {k:IntKind} {zs:List Int} {len cap m:Nat} (hb:w.heap[a.block]? =some (.cells c t fr)) (hs:a.spot=none) (hcap:zs.length=cap) (hlen:len≤cap)
  (hc:∀i,i<zs.length→w.cell? (a.add i)=some (.int k (zs.getD i 0))):RoI (env0 (allZ w) m) false k (zs.take len) (.slice (some a) len cap):=by
 have hl:(zs.take len).length=len:=by rw [List.length_take];omega
 by_cases h0:cap=0
 ·exact .inl ⟨List.length_eq_zero_iff.1 (by omega),_,cap,by rw [show len=0 by omega],fun q=>by cases q⟩
 ·obtain ⟨b,o,sp⟩:=a
  simp only at hs
  subst hs
  have hw:=win_of_cells hb rfl hc
  have hsz:o+cap≤c.size:=by
   have:=congrArg List.length hw
   rw [intsV_length,List.length_take,List.length_drop] at this
   simp only [Array.length_toList] at this
   omega
  refine .inr ⟨b,o,cap,c,t,fr,by rw [hl],allZ_eq hb,(fun q=>by cases q),?_,by omega,hsz⟩
  rw [intsV_take,hw,hl,List.take_take,hcap,Nat.min_eq_left hlen]
end
end Go.Sy
namespace Go.Sy
open Go
mutual
def noRo:SV→Bool
 | .ro _ _ _=>false
 | .rob _ _=>false
 | .rol _ _ _ _=>false
 | .rpi _ _ _=>false
 | .rpb _ _ _=>false
 | .rpl _ _ _ _ _ _ _=>false
 | .rows _ _ _=>false
 | .agg ps=>noRoL ps
 | .tup vs=>noRoL vs
 | .iface _ x=>noRo x
 | .fn _ a b=>noRoL a&&noRoL b
 |_=>true
def noRoL:List SV→Bool
 | []=>true
 |x::xs=>noRo x&&noRoL xs
end
section
variable {e e':Env} {s:Nat→Nat}
mutual
theorem VR.renNo:∀{v:SV} {v':Value},noRo v=true→(∀j p,uses j v=true→e.r j=some p→e'.r (s j)=some p)→VR e v v'→VR e' (ren s v) v'
 | .bool _,_,_,_,h=>h
 | .int _ _,_,_,_,h=>h
 | .str _,_,_,_,h=>h
 | .nl _,_,_,_,h=>h
 | .ints _ _ _,_,_,_,h=>h
 | .ptr b _ _,_,_,g,⟨p,h1,h2⟩=>⟨p,g b p (by simp [uses]) h1,h2⟩
 | .sl b _ _ _ _ _ _ _,_,_,g,h=>by
  rcases h with h|⟨p,c,a,h1,h2⟩
  ·exact .inl h
  ·exact .inr ⟨p,c,a,g b p (by simp [uses]) h1,h2⟩
 | .ro _ _ _,_,n,_,_=>by simp [noRo] at n
 | .rob _ _,_,n,_,_=>by simp [noRo] at n
 | .rol _ _ _ _,_,n,_,_=>by simp [noRo] at n
 | .rpi _ _ _,_,n,_,_=>by simp [noRo] at n
 | .rpb _ _ _,_,n,_,_=>by simp [noRo] at n
 | .rpl _ _ _ _ _ _ _,_,n,_,_=>by simp [noRo] at n
 | .agg ps,_,n,g,⟨ys,h1,h2⟩=>⟨ys,PR.renNo (by simpa [noRo] using n) (fun j p q=>g j p (by simpa [uses] using q)) h1,h2⟩
 | .tup vs,_,n,g,⟨ys,h1,h2⟩=>⟨ys,LR.renNo (by simpa [noRo] using n) (fun j p q=>g j p (by simpa [uses] using q)) h1,h2⟩
 | .iface _ x,_,n,g,⟨y,h1,h2⟩=>⟨y,VR.renNo (v:=x) (by simpa [noRo] using n) (fun j p q=>g j p (by simpa [uses] using q)) h1,h2⟩
 | .fn _ a b,_,n,g,⟨ys,us,h1,h2,h3⟩=>by
  simp only [noRo,Bool.and_eq_true] at n
  exact ⟨ys,us,LR.renNo n.1 (fun j p q=>g j p (by simp [uses,q])) h1,LR.renNo n.2 (fun j p q=>g j p (by simp [uses,q])) h2,h3⟩
 | .rows _ _ _,_,_,_,h=>h.elim
 | .rsl b _ _ _ _,_,_,g,h=>by
  rcases h with h|⟨p,c,a,h1,h2⟩
  ·exact .inl h
  ·exact .inr ⟨p,c,a,g b p (by simp [uses]) h1,h2⟩
 | .rptr b _ _ _ _,_,_,g,⟨p,h1,h2⟩=>⟨p,g b p (by simp [uses]) h1,h2⟩
 | .mpv b,_,_,g,⟨p,h1,h2⟩=>⟨p,g b p (by simp [uses]) h1,h2⟩
 | .glb _ _,_,_,_,h=>h
theorem LR.renNo:∀{vs:List SV} {ys:List Value},noRoL vs=true→(∀j p,usesL j vs=true→e.r j=some p→e'.r (s j)=some p)→LR e vs ys→LR e' (renL s vs) ys
 | [],_,_,_,h=>h
 |x::xs,_,n,g,⟨y,zs,h1,h2,h3⟩=>by
  simp only [noRoL,Bool.and_eq_true] at n
  exact ⟨y,zs,VR.renNo n.1 (fun j p q=>g j p (by simp [usesL,q])) h1,LR.renNo n.2 (fun j p q=>g j p (by simp [usesL,q])) h2,h3⟩
theorem PR.renNo:∀{vs:List SV} {ys:List Value},noRoL vs=true→(∀j p,usesL j vs=true→e.r j=some p→e'.r (s j)=some p)→PR e vs ys→PR e' (renL s vs) ys
 | [],_,_,_,h=>h
 |x::xs,ys,n,g,h=>by
  simp only [noRoL,Bool.and_eq_true] at n
  have ih:=fun zs=>PR.renNo (vs:=xs) (ys:=zs) n.2 (fun j p q=>g j p (by simp [usesL,q]))
  have iv:=fun y=>VR.renNo (v:=x) (v':=y) n.1 (fun j p q=>g j p (by simp [usesL,q]))
  cases x<;>first
   |(simp [noRo] at n;done)
   |(obtain ⟨zs,h1,h2⟩:=h;exact ⟨zs,ih zs h1,h2⟩)
   |(obtain ⟨y,zs,h1,h2,h3⟩:=h;exact ⟨y,zs,iv y h1,ih zs h2,h3⟩)
end
end
def hide (is:List Nat) (h:List Blk):List Blk:=h.zipIdx.map fun (b,i)=>match is.contains i,b with
 |true,.b _=>.b []
 |_,b=>b
mutual
def absS (is:List Nat) (hg:List Blk):SV→Option (SV×Bool×Bool)
 | .ptr b o i=>if is.contains b then some (.ptr (is.idxOf b) o i,true,false) else none
 | .sl b o i z len cap ex wh=>if is.contains b then some (.sl (is.idxOf b) o i z len cap ex wh,true,false) else frzS hg (.sl b o i z len cap ex wh)
 | .fn f a b=>match absL is hg a,absL is hg b with
  |some (x,p,s),some (y,q,t)=>some (.fn f x y,andT p q,s||t)
  |_,_=>none
 | .agg ps=>match absL is hg ps with
  |some (l,p,t)=>some (.agg l,p,t)
  |none=>none
 | .iface ty x=>match absS is hg x with
  |some (y,p,t)=>some (.iface ty y,p,t)
  |none=>none
 | .bool b=>frzS hg (.bool b)
 | .int k n=>frzS hg (.int k n)
 | .str s=>frzS hg (.str s)
 | .nl v=>frzS hg (.nl v)
 | .ints k n xs=>frzS hg (.ints k n xs)
 | .ro f k xs=>frzS hg (.ro f k xs)
 | .rob f xss=>frzS hg (.rob f xss)
 | .rol f z len g=>frzS hg (.rol f z len g)
 | .rsl b z len cap ex=>if is.contains b then some (.rsl (is.idxOf b) z len cap ex,true,false) else frzS hg (.rsl b z len cap ex)
 | .rptr b z e o i=>if is.contains b then some (.rptr (is.idxOf b) z e o i,true,false) else none
 | .mpv b=>if is.contains b then some (.mpv (is.idxOf b),true,false) else none
 |_=>none
def absL (is:List Nat) (hg:List Blk):List SV→Option (List SV×Bool×Bool)
 | []=>some ([],true,false)
 |x::xs=>match absS is hg x,absL is hg xs with
  |some (y,p,a),some (l,q,b)=>some (y::l,andT p q,a||b)
  |_,_=>none
end
theorem abs_notInts {is:List Nat} {hg:List Blk} {v u:SV} {p t:Bool} (g:absS is hg v=some (u,p,t)) (hn:notInts v=true):notInts u=true:=by
 cases v<;>simp only [absS] at g
 case ptr=>split at g<;>cases g;rfl
 case sl=>
  split at g
  ·cases g;rfl
  ·exact frz_notInts g rfl
 case fn=>split at g<;>cases g;rfl
 case agg=>split at g<;>cases g;rfl
 case iface=>split at g<;>cases g;rfl
 case rsl=>
  split at g
  ·cases g;rfl
  ·exact frz_notInts g rfl
 case rptr=>split at g<;>cases g;rfl
 case mpv=>split at g<;>cases g;rfl
 case ints=>cases hn
 all_goals first|exact frz_notInts g rfl|cases g
def setAll (h:List Blk):List Nat→List Blk→List Blk
 |i::is,b::bs=>setAll (h.set i b) is bs
 |_,_=>h
def renB (s:Nat→Nat):Blk→Blk
 | .b ps=>.b (renL s ps)
 | .g _=>.gap
theorem setAll_length:∀{h:List Blk} {is:List Nat} {bs:List Blk},(setAll h is bs).length=h.length
 |_,[],_=>by simp [setAll]
 |_,_::_,[]=>by simp [setAll]
 |h,i::is,b::bs=>by simp only [setAll];rw [setAll_length,List.length_set]
theorem setAll_ne:∀{h:List Blk} {is:List Nat} {bs:List Blk} {i:Nat},i ∉ is→(setAll h is bs)[i]? =h[i]?
 |_,[],_,_,_=>by simp [setAll]
 |_,_::_,[],_,_=>by simp [setAll]
 |h,a::is,b::bs,i,hi=>by
  simp only [List.mem_cons,not_or] at hi
  simp only [setAll]
  rw [setAll_ne hi.2,List.getElem?_set_ne (fun q=>hi.1 q.symm)]
theorem setAll_get:∀{h:List Blk} {is:List Nat} {bs:List Blk} {q i:Nat},is.Nodup→is[q]? =some i→i<h.length→q<bs.length→(setAll h is bs)[i]? =bs[q]?
 |_,[],_,_,_,_,hq,_,_=>by simp at hq
 |_,_::_,[],_,_,_,_,_,hb=>by simp at hb
 |h,a::is,b::bs,0,i,hn,hq,hl,_=>by
  simp at hq;subst hq
  simp only [setAll]
  rw [setAll_ne (List.nodup_cons.1 hn).1]
  simp [hl]
 |h,a::is,b::bs,q+1,i,hn,hq,hl,hb=>by
  simp only [setAll]
  have:=setAll_get (h:=h.set a b) (is:=is) (bs:=bs) (q:=q) (i:=i) (List.nodup_cons.1 hn).2 (by simpa using hq) (by simpa using hl) (by simpa using hb)
  simpa using this
theorem hide_length {is:List Nat} {h:List Blk}:(hide is h).length=h.length:=by simp [hide]
theorem hide_get {is:List Nat} {h:List Blk} {i:Nat}:(hide is h)[i]? =(h[i]?).map fun b=>match is.contains i,b with
  |true,.b _=>.b []
  |_,b=>b:=by
 unfold hide
 rw [List.getElem?_map,List.getElem?_zipIdx]
 cases h[i]? <;>simp
section
variable {P:Program} {B:Base} {e:Env} {h:List Blk} {w:World}
theorem Rel.hide (R:Rel B e h w) (is:List Nat):Rel B e (hide is h) w:={R with
 dom:=fun i p hi=>by rw [hide_length];exact R.dom i p hi
 blk:=fun i ps hi=>by
  rw [hide_get] at hi
  cases hq:h[i]? with
  |none=>simp [hq] at hi
  |some b=>
   simp only [hq,Option.map_some,Option.some.injEq] at hi
   cases hc:is.contains i with
   |false=>
    rw [hc] at hi
    simp only at hi
    subst hi
    exact R.blk i ps hq
   |true=>
    rw [hc] at hi
    cases b with
    |g _=>cases hi
    |b qs=>
     simp only [Blk.b.injEq] at hi
     subst hi
     rcases R.blk i qs hq with ⟨g1,g2⟩|⟨p,o,g1,g2,c,t,rfl,g3,g4,g5⟩
     ·exact .inl ⟨rfl,g2⟩
     ·exact .inr ⟨p,_,g1,g2,c,t,rfl,g3,Nat.zero_le _,by simp [psize,PR]⟩
 gap:=fun i g hi=>by
  rw [hide_get] at hi
  cases hq:h[i]? with
  |none=>simp [hq] at hi
  |some b=>
   cases b with
   |g g'=>
    simp only [hq,Option.map_some,Option.some.injEq] at hi
    have:g'=g:=by cases hc:is.contains i<;>rw [hc] at hi<;>cases hi<;>rfl
    subst this
    exact R.gap i _ hq
   |b ps=>
    simp only [hq,Option.map_some,Option.some.injEq] at hi
    cases hc:is.contains i<;>rw [hc] at hi<;>cases hi
 kle:=by rw [hide_length];exact R.kle}
end
def envC (e:Env) (is:List Nat) (z:Nat→Option (Array Value×TypeId×(Nat×Nat))) (n:Nat):Env:=⟨fun q=>(is[q]?).bind e.r,z,n,[],fun _=>none⟩
def lies (e:Env) (is:List Nat) (n:Nat):Bool:=is.any fun i=>match e.r i with
 |some p=>p.n==n
 |none=>false
def n0C (e:Env) (w:World) (t:Bool):Nat:=match t with
 |true=>w.heap.size
 |false=>e.n0
def zC (e:Env) (w:World) (is:List Nat) (t:Bool):Nat→Option (Array Value×TypeId×(Nat×Nat)):=fun n=>match t with
 |true=>match lies e is n with
  |true=>none
  |false=>allZ w n
 |false=>e.z n
section
variable {P:Program} {B:Base} {e:Env} {h:List Blk} {w:World}
theorem lies_iff {is:List Nat} {n:Nat}:lies e is n=true↔∃i p,i∈is∧e.r i=some p∧p.n=n:=by
 unfold lies
 rw [List.any_eq_true]
 constructor
 ·rintro ⟨i,hi,hq⟩
  cases hp:e.r i with
  |none=>simp [hp] at hq
  |some p=>simp [hp] at hq;exact ⟨i,p,hi,hp,hq⟩
 ·rintro ⟨i,p,hi,hp,hn⟩
  exact ⟨i,hi,by simp [hp,hn]⟩
theorem idx_get {is:List Nat} {b:Nat} (hb:is.contains b=true):is[is.idxOf b]? =some b:=by
 have hm:b∈is:=by simpa using hb
 rw [List.getElem?_eq_getElem (List.idxOf_lt_length_of_mem hm)]
 simp
theorem zC_le (R:Rel B e h w) {is:List Nat} {T:Bool} {n:Nat} {x:Array Value×TypeId×(Nat×Nat)} (hx:e.z n=some x):zC e w is T n=some x:=by
 cases T with
 |false=>exact hx
 |true=>
  have hl:lies e is n=false:=by
   cases hl:lies e is n with
   |false=>rfl
   |true=>
    obtain ⟨i,p,_,hp,rfl⟩:=lies_iff.1 hl
    rw [R.sep i p hp] at hx;cases hx
  simp only [zC,hl]
  obtain ⟨c,ty,fr⟩:=x
  exact allZ_eq (R.zok n c ty fr hx)
theorem abs_frz (R:Rel B e h w) {is:List Nat} {T:Bool} (m:Nat) {v u:SV} {t:Bool} {v':Value} (g:frzS (Sy.hide is h) v=some (u,true,t)) (ht:t=true→T=true) (hv:VR e v v'):VR (envC e is (zC e w is T) m) u v':=by
 have hzz:∀n x,e.z n=some x→zC e w is T n=some x:=fun n x hx=>by
  cases T with
  |false=>exact hx
  |true=>
   have hl:lies e is n=false:=by
    cases hl:lies e is n with
    |false=>rfl
    |true=>
     obtain ⟨i,p,_,hp,rfl⟩:=lies_iff.1 hl
     rw [R.sep i p hp] at hx;cases hx
   simp only [zC,hl]
   obtain ⟨c,ty,fr⟩:=x
   exact allZ_eq (R.zok n c ty fr hx)
 have:=frzS_sound (R.hide is) (zz:=zC e w is T) hzz (T:=T) (fun hT i p c ty hne hp hc=>by
  subst hT
  have hl:lies e is p.n=false:=by
   cases hl:lies e is p.n with
   |false=>rfl
   |true=>
    exfalso
    obtain ⟨i',p',hi',hp',hn⟩:=lies_iff.1 hl
    have:=R.inj i' i p' p hp' hp hn
    subst this
    have hil:=R.dom i' p hp
    refine hne ?_
    rw [hide_get,List.getElem?_eq_getElem hil,Option.map_some,show is.contains i'=true by simpa using hi']
    cases hb:h[i'] with
    |b ps=>rfl
    |g _=>
     have:=(R.gap i' _ (by rw [List.getElem?_eq_getElem hil,hb])).1
     rw [hp] at this;cases this
  show zC e w is true p.n=_
  simp only [zC,hl]
  exact allZ_eq hc) m g ht hv
 exact VR.mono (e:=env0 (zC e w is T) m) (e':=envC e is (zC e w is T) m) ⟨(fun _ _ h=>by cases h),fun _ _ h=>h,Nat.le_refl _⟩ this
theorem abs_rb {is:List Nat} {z:Nat→Option (Array Value×TypeId×(Nat×Nat))} {m:Nat}:∀b p,is.contains b=true→e.r b=some p→(envC e is z m).r (is.idxOf b)=some p:=fun b p hb hp=>by
 show (is[is.idxOf b]?).bind e.r=some p
 rw [idx_get hb];exact hp
mutual
theorem absS_sound (R:Rel B e h w) {is:List Nat} {T:Bool} (m:Nat):∀{v u:SV} {t:Bool} {v':Value},absS is (hide is h) v=some (u,true,t)→(t=true→T=true)→VR e v v'→VR (envC e is (zC e w is T) m) u v'
 | .ptr b o i,u,t,v',g,ht,hv=>by
  simp only [absS] at g
  split at g
  ·rename_i hb
   cases g
   obtain ⟨p,h1,h2⟩:=hv
   exact ⟨p,abs_rb b p hb h1,h2⟩
  ·cases g
 | .sl b o i z len cap ex wh,u,t,v',g,ht,hv=>by
  simp only [absS] at g
  split at g
  ·rename_i hb
   cases g
   rcases hv with hv|⟨p,c,a,h1,h2⟩
   ·exact .inl hv
   ·exact .inr ⟨p,c,a,abs_rb b p hb h1,h2⟩
  ·exact abs_frz R m g ht hv
 | .fn f a b,u,t,v',g,ht,hv=>by
  simp only [absS] at g
  split at g
  ·rename_i x p s y q t' ha hb
   simp only [Option.some.injEq,Prod.mk.injEq,andT_iff] at g
   obtain ⟨rfl,⟨rfl,rfl⟩,rfl⟩:=g
   obtain ⟨ys,us,h1,h2,rfl⟩:=hv
   exact ⟨ys,us,absL_sound R m ha (fun h=>ht (by rw [h];rfl)) h1,absL_sound R m hb (fun h=>ht (by rw [h];exact Bool.or_true _)) h2,rfl⟩
  ·cases g
 | .agg ps,u,t,v',g,ht,hv=>by
  simp only [absS] at g
  split at g
  ·rename_i l p t' hl
   simp only [Option.some.injEq,Prod.mk.injEq] at g
   obtain ⟨rfl,rfl,rfl⟩:=g
   obtain ⟨ys,h1,rfl⟩:=hv
   exact ⟨ys,absP_sound R m hl ht h1,rfl⟩
  ·cases g
 | .iface ty x,u,t,v',g,ht,hv=>by
  simp only [absS] at g
  split at g
  ·rename_i y p t' hl
   simp only [Option.some.injEq,Prod.mk.injEq] at g
   obtain ⟨rfl,rfl,rfl⟩:=g
   obtain ⟨y',h1,rfl⟩:=hv
   exact ⟨y',absS_sound R m hl ht h1,rfl⟩
  ·cases g
 | .bool b,u,t,v',g,ht,hv=>by simp only [absS] at g;exact abs_frz R m g ht hv
 | .int k n,u,t,v',g,ht,hv=>by simp only [absS] at g;exact abs_frz R m g ht hv
 | .str k,u,t,v',g,ht,hv=>by simp only [absS] at g;exact abs_frz R m g ht hv
 | .nl k,u,t,v',g,ht,hv=>by simp only [absS] at g;exact abs_frz R m g ht hv
 | .ints k n xs,u,t,v',g,ht,hv=>by simp only [absS] at g;exact abs_frz R m g ht hv
 | .ro f k xs,u,t,v',g,ht,hv=>by simp only [absS] at g;exact abs_frz R m g ht hv
 | .rob f xs,u,t,v',g,ht,hv=>by simp only [absS] at g;exact abs_frz R m g ht hv
 | .rol f z len gg,u,t,v',g,ht,hv=>by simp only [absS] at g;exact abs_frz R m g ht hv
 | .rpi _ _ _,u,t,v',g,_,_=>by simp [absS] at g
 | .rpb _ _ _,u,t,v',g,_,_=>by simp [absS] at g
 | .rpl _ _ _ _ _ _ _,u,t,v',g,_,_=>by simp [absS] at g
 | .tup _,u,t,v',g,_,_=>by simp [absS] at g
 | .glb _ _,u,t,v',g,_,_=>by simp [absS] at g
 | .rows _ _ _,u,t,v',g,_,_=>by simp [absS] at g
 | .rsl b z len cap ex,u,t,v',g,ht,hv=>by
  simp only [absS] at g
  split at g
  ·rename_i hb
   cases g
   rcases hv with hv|⟨p,c,a,h1,h2⟩
   ·exact .inl hv
   ·exact .inr ⟨p,c,a,abs_rb b p hb h1,h2⟩
  ·exact abs_frz R m g ht hv
 | .rptr b z e o i,u,t,v',g,ht,hv=>by
  simp only [absS] at g
  split at g
  ·rename_i hb
   cases g
   obtain ⟨p,h1,h2⟩:=hv
   exact ⟨p,abs_rb b p hb h1,h2⟩
  ·cases g
 | .mpv b,u,t,v',g,ht,hv=>by
  simp only [absS] at g
  split at g
  ·rename_i hb
   cases g
   obtain ⟨p,h1,h2⟩:=hv
   exact ⟨p,abs_rb b p hb h1,h2⟩
  ·cases g
theorem absL_sound (R:Rel B e h w) {is:List Nat} {T:Bool} (m:Nat):∀{vs us:List SV} {t:Bool} {ys:List Value},absL is (hide is h) vs=some (us,true,t)→(t=true→T=true)→LR e vs ys→LR (envC e is (zC e w is T) m) us ys
 | [],us,t,ys,g,_,hv=>by simp only [absL,Option.some.injEq,Prod.mk.injEq] at g;obtain ⟨rfl,_⟩:=g;exact hv
 |x::xs,us,t,ys,g,ht,hv=>by
  simp only [absL] at g
  split at g
  ·rename_i y p a l q b hx hl
   simp only [Option.some.injEq,Prod.mk.injEq,andT_iff] at g
   obtain ⟨rfl,⟨rfl,rfl⟩,rfl⟩:=g
   obtain ⟨y',zs,h1,h2,rfl⟩:=hv
   exact ⟨y',zs,absS_sound R m hx (fun h=>ht (by rw [h];rfl)) h1,absL_sound R m hl (fun h=>ht (by rw [h];exact Bool.or_true _)) h2,rfl⟩
  ·cases g
theorem absP_sound (R:Rel B e h w) {is:List Nat} {T:Bool} (m:Nat):∀{vs us:List SV} {t:Bool} {ys:List Value},absL is (hide is h) vs=some (us,true,t)→(t=true→T=true)→PR e vs ys→PR (envC e is (zC e w is T) m) us ys
 | [],us,t,ys,g,_,hv=>by simp only [absL,Option.some.injEq,Prod.mk.injEq] at g;obtain ⟨rfl,_⟩:=g;exact hv
 |x::xs,us,t,ys,g,ht,hv=>by
  simp only [absL] at g
  split at g
  ·rename_i y p a l q b hx hl
   simp only [Option.some.injEq,Prod.mk.injEq,andT_iff] at g
   obtain ⟨rfl,⟨rfl,rfl⟩,rfl⟩:=g
   have ha:a=true→T=true:=fun h=>ht (by rw [h];rfl)
   have hb:b=true→T=true:=fun h=>ht (by rw [h];exact Bool.or_true _)
   by_cases hn:notInts x=true
   ·obtain ⟨y',zs,h1,h2,rfl⟩:=(PR.cons hn).1 hv
    exact (PR.cons (abs_notInts hx hn)).2 ⟨y',zs,absS_sound R m hx ha h1,absP_sound R m hl hb h2,rfl⟩
   ·cases x<;>simp [notInts] at hn
    case rows=>simp [absS] at hx
    simp only [absS,frzS,Option.some.injEq,Prod.mk.injEq] at hx
    obtain ⟨rfl,_⟩:=hx
    obtain ⟨zs,h2,rfl⟩:=hv
    exact ⟨zs,absP_sound R m hl hb h2,rfl⟩
  ·cases g
end
def backN (is:List Nat) (j:Nat) (q:Nat):Nat:=match is[q]? with
 |some i=>i
 |none=>j+(q-is.length)
theorem mut_start (R:Rel B e h w) {is:List Nat} {l:List (List SV)} (hnd:is.Nodup) (hl:pickH h is=some l) (href:∀ps∈l,refsInL is ps=true) {t:Bool} (hnr:t=true→∀ps∈l,noRoL ps=true):
  Rel ⟨w,envC e is (zC e w is t) (n0C e w t),is.length,[]⟩ (envC e is (zC e w is t) (n0C e w t)) (l.map fun ps=>.b (renL (fun b=>is.idxOf b) ps)) w:=by
 obtain ⟨hlen,hget⟩:=pickH_get hl
 have hr:∀q p,(envC e is (zC e w is t) (n0C e w t)).r q=some p→∃i,is[q]? =some i∧e.r i=some p:=fun q p hq=>Option.bind_eq_some_iff.1 hq
 have hen:e.n0≤w.heap.size:=by have:=R.n0;have:=R.n0le;have:=R.size;omega
 exact {
  os:=rfl,tape:=rfl,output:=rfl,size:=Nat.le_refl _
  inj:=fun i j p q hi hj hpq=>by
   obtain ⟨a,h1,h2⟩:=hr i p hi
   obtain ⟨b,h3,h4⟩:=hr j q hj
   have:=R.inj a b p q h2 h4 hpq
   subst this
   exact (List.getElem?_inj (List.getElem?_eq_some_iff.1 h1).1 hnd).1 (h1.trans h3.symm)
  dom:=fun i p hi=>by
   obtain ⟨a,h1,_⟩:=hr i p hi
   have:=(List.getElem?_eq_some_iff.1 h1).1
   simpa [hlen] using this
  sep:=fun i p hi=>by
   obtain ⟨a,h1,h2⟩:=hr i p hi
   show zC e w is t p.n=none
   cases t with
   |false=>exact R.sep a p h2
   |true=>simp only [zC,lies_iff.2 ⟨a,p,List.mem_of_getElem? h1,h2,rfl⟩]
  zok:=fun n c ty fr hx=>by
   have hx':zC e w is t n=some (c,ty,fr):=hx
   cases t with
   |false=>exact R.zok n c ty fr hx'
   |true=>
    simp only [zC] at hx'
    split at hx'
    ·cases hx'
    ·exact allZ_heap hx'
  zfresh:=fun _ _ hx=>.inl hx,glb:=fun g k xs hg=>(R.glb g k xs hg).imp fun c ⟨ty,fr,h1,h2⟩=>⟨ty,fr,zC_le R h1,h2⟩,news:=fun _ _ hi=>.inl hi,keepr:=fun _ _ hi=>hi,keepz:=fun _ _ hx=>hx,n0:=rfl
  n0le:=by show n0C e w t≤w.heap.size;cases t<;>simp [n0C,hen]
  blk:=fun q ps hq=>by
   rw [List.getElem?_map] at hq
   obtain ⟨ps0,h1,h2⟩:=Option.map_eq_some_iff.1 hq
   cases h2
   have hqi:q<is.length:=by have:=(List.getElem?_eq_some_iff.1 h1).1;omega
   obtain ⟨ps1,h3,h4⟩:=hget q _ (List.getElem?_eq_getElem hqi)
   rw [h1] at h3;cases h3
   have hre:(envC e is (zC e w is t) (n0C e w t)).r q=e.r is[q]:=by
    show (is[q]?).bind e.r=_;rw [List.getElem?_eq_getElem hqi];rfl
   have hmem:=List.mem_of_getElem? h1
   rcases R.blk _ ps0 h4 with ⟨g1,g2⟩|⟨p,o,g1,g2,c,ty,rfl,g3,g4,g5⟩
   ·exact .inl ⟨by rw [psize_renL];exact g1,by rw [hre];exact g2⟩
   ·refine .inr ⟨p,_,by rw [hre];exact g1,g2,c,ty,rfl,g3,by rw [psize_renL];exact g4,?_⟩
    rw [psize_renL]
    have up:∀b p,usesL b ps0=true→e.r b=some p→(envC e is (zC e w is t) (n0C e w t)).r (is.idxOf b)=some p:=fun b p hu hp=>by
     show (is[is.idxOf b]?).bind e.r=some p
     rw [idx_get (by simpa using refsInL_uses (href ps0 hmem) hu)];exact hp
    cases t with
    |false=>exact PR.ren (e:=e) (e':=envC e is (zC e w is false) (n0C e w false)) (fun _ _ h=>h) (Nat.le_refl _) ps0 _ up g5
    |true=>exact PR.renNo (e:=e) (e':=envC e is (zC e w is true) (n0C e w true)) (hnr rfl ps0 hmem) up g5
  gap:=fun q g hq=>by
   rw [List.getElem?_map] at hq
   obtain ⟨_,_,h2⟩:=Option.map_eq_some_iff.1 hq
   cases h2
  yi:=(fun i j n hi=>by cases hi),yb:=(fun i n hi=>by cases hi)
  old:=fun _ _ _ _=>rfl
  win:=fun i p hi=>by
   obtain ⟨a,h1,h2⟩:=hr i p hi
   obtain ⟨c,ty,h1,_⟩:=R.isCells h2
   exact ⟨_,_,h1,h1,c,c,ty,(0,0),rfl,rfl,rfl,fun _ _=>rfl⟩
  kr:=fun i p hi=>by
   obtain ⟨a,h1,_⟩:=hr i p hi
   exact (List.getElem?_eq_some_iff.1 h1).1
  kle:=by simp [hlen]
  mks:=fun r hr=>by cases hr
  mnd:=List.nodup_nil}
theorem backN_lt {is:List Nat} {j q i:Nat} (h:is[q]? =some i):backN is j q=i:=by unfold backN;rw [h]
theorem backN_ge {is:List Nat} {j q:Nat} (h:is.length≤q):backN is j q=j+(q-is.length):=by unfold backN;rw [List.getElem?_eq_none h]
end
end Go.Sy
namespace Go.Sy
open Go
def backH (is:List Nat) (j:Nat) (h h1:List Blk):List Blk:=setAll h is ((h1.take is.length).map (renB (backN is j)))
def backNew (is:List Nat) (j:Nat) (h1:List Blk):List Blk:=(h1.drop is.length).map (renB (backN is j))
section
variable {P:Program}
theorem mut_call {f:FuncId} {us:List SV} {v:SV} {is:List Nat} {l:List (List SV)} {h1:List Blk} (g:FnTr P f us (l.map fun ps=>.b (renL (fun b=>is.idxOf b) ps)) v h1) {h:List Blk} {vs:List SV} {t:Bool}
  (hnd:is.Nodup) (hl:pickH h is=some l) (href:∀ps∈l,refsInL is ps=true) (hnr:t=true→∀ps∈l,noRoL ps=true) (habs:absL is (hide is h) vs=some (us,true,t))
  (hst:t=true→stale v=false∧∀b∈h1,staleB b=false)
  {B:Base} {e:Env} {w:World} {args:List Value} {j:Nat} (hla:LR e vs args) (R:Rel B e h w) (hj:Free h j (h1.length-is.length)):
  Calls P f ⟨args⟩ w fun en w'=>∃v',en= .returned v'∧∃e2,VR e2 (ren (backN is j) v) v'∧Rel B e2 (placeH (backH is j h h1) j (backNew is j h1)) w'∧EStep e e2 none:=by
 obtain ⟨hlen,hget⟩:=pickH_get hl
 have hal:=absL_sound R (n0C e w t) habs id hla
 have R0:=mut_start R hnd hl href hnr
 refine (g _ _ w args (by simp [hlen]) hal R0).mono ?_
 rintro en w' ⟨v',rfl,e',_,hv,S⟩
 have hlt:∀{q i:Nat},is[q]? =some i→i<h.length:=fun {q i} hq=>by
  obtain ⟨ps,_,h4⟩:=hget q i hq
  exact (List.getElem?_eq_some_iff.1 h4).1
 have hkle:is.length≤h1.length:=S.kle
 have r0:∀q,(envC e is (zC e w is t) (n0C e w t)).r q=(is[q]?).bind e.r:=fun _=>rfl
 have snew:∀q p,e'.r q=some p→(∃i,is[q]? =some i∧e.r i=some p)∨w.heap.size≤p.n:=fun q p hq=>by
  rcases S.news q p hq with h|h
  ·exact .inl (Option.bind_eq_some_iff.1 h)
  ·exact .inr h
 have skeep:∀{q i p},is[q]? =some i→e.r i=some p→e'.r q=some p:=fun {q i p} hq hp=>S.keepr q p (by show (is[q]?).bind e.r=some p;rw [hq];exact hp)
 have sold:∀n,n<w.heap.size→(∀i p,i∈is→e.r i=some p→p.n≠n)→w'.heap[n]? =w.heap[n]? :=fun n hn hno=>S.old n hn (fun q p hq=>by
  obtain ⟨i,h1,h2⟩:=Option.bind_eq_some_iff.1 (show (is[q]?).bind e.r=some p from hq)
  exact hno i p (List.mem_of_getElem? h1) h2) (by simp)
 have cross:∀{q i p p'},e'.r q=some p→e.r i=some p'→i ∉ is→p.n≠p'.n:=fun {q i p p'} hq hi hni heq=>by
  rcases snew q p hq with ⟨a,h1,h2⟩|h
  ·have:=R.inj a i p p' h2 hi heq
   subst this
   exact hni (List.mem_of_getElem? h1)
  ·have:=R.lt hi;omega
 have hen:e.n0≤w.heap.size:=by have:=R.n0;have:=R.n0le;have:=R.size;omega
 have hn0:e'.n0=n0C e w t:=S.n0
 have hnn:e.n0≤n0C e w t:=by cases t<;>simp [n0C,hen]
 let nn:=h1.length-is.length
 let z2:Nat→Option (Array Value×TypeId×(Nat×Nat)):=fun n=>if n<w.heap.size then e.z n else e'.z n
 let r2:Nat→Option Pl:=fun i=>if is.contains i=true then e'.r (is.idxOf i) else if j≤i∧i<j+nn then e'.r (is.length+(i-j)) else e.r i
 let e2:Env:=⟨r2,z2,e.n0,e.m,e.y⟩
 have idx:∀{q i},is[q]? =some i→is.contains i=true∧is.idxOf i=q:=fun {q i} hq=>by
  have hm:=List.mem_of_getElem? hq
  refine ⟨by simpa using hm,?_⟩
  have h1:=List.idxOf_lt_length_of_mem hm
  have h2:is[is.idxOf i]? =some i:=by rw [List.getElem?_eq_getElem h1];simp
  exact (List.getElem?_inj h1 hnd).1 (h2.trans hq.symm)
 have newNot:∀i,j≤i∧i<j+nn→is.contains i=true→False:=fun i hi hc=>by
  have hm:i∈is:=by simpa using hc
  obtain ⟨q,hq⟩:=List.mem_iff_getElem?.1 hm
  obtain ⟨ps,_,h4⟩:=hget q i hq
  rcases hj with rfl|hg
  ·have:=hlt hq;omega
  ·have:=hg (i-j) (by show i-j<h1.length-is.length;omega)
   rw [show j+(i-j)=i by omega,h4] at this;cases this
 have r2is:∀{q i},is[q]? =some i→r2 i=e'.r q:=fun {q i} hq=>by
  obtain ⟨h1,h2⟩:=idx hq
  show (if is.contains i=true then e'.r (is.idxOf i) else _)=_
  rw [if_pos h1,h2]
 have r2new:∀{i},j≤i∧i<j+nn→r2 i=e'.r (is.length+(i-j)):=fun {i} hi=>by
  show (if is.contains i=true then e'.r (is.idxOf i) else _)=_
  rw [if_neg (fun hc=>newNot i hi hc),if_pos hi]
 have r2old:∀{i},is.contains i≠true→¬(j≤i∧i<j+nn)→r2 i=e.r i:=fun {i} h1 h2=>by
  show (if is.contains i=true then e'.r (is.idxOf i) else _)=_
  rw [if_neg h1,if_neg h2]
 have oldNot:∀{i p},e.r i=some p→¬(j≤i∧i<j+nn):=fun {i p} hp hi=>by
  rcases hj with rfl|hg
  ·have:=R.dom i p hp;omega
  ·have:=(R.gap i _ (by have:=hg (i-j) (by show i-j<h1.length-is.length;omega);rwa [show j+(i-j)=i by omega] at this)).1
   rw [hp] at this;cases this
 have cases2:∀i p,r2 i=some p→(∃q,is[q]? =some i∧e'.r q=some p)∨((j≤i∧i<j+nn)∧e'.r (is.length+(i-j))=some p)∨(i ∉ is∧¬(j≤i∧i<j+nn)∧e.r i=some p):=fun i p hp=>by
  by_cases hc:is.contains i=true
  ·obtain ⟨q,hq⟩:=List.mem_iff_getElem?.1 (show i∈is by simpa using hc)
   rw [r2is hq] at hp
   exact .inl ⟨q,hq,hp⟩
  ·by_cases hn:j≤i∧i<j+nn
   ·rw [r2new hn] at hp;exact .inr (.inl ⟨hn,hp⟩)
   ·rw [r2old hc hn] at hp;exact .inr (.inr ⟨by simpa using hc,hn,hp⟩)
 have up:∀i p,e.r i=some p→r2 i=some p:=fun i p hp=>by
  by_cases hc:is.contains i=true
  ·obtain ⟨q,hq⟩:=List.mem_iff_getElem?.1 (show i∈is by simpa using hc)
   rw [r2is hq];exact skeep hq hp
  ·rw [r2old hc (oldNot hp)];exact hp
 have back:∀q p,e'.r q=some p→e2.r (backN is j q)=some p:=fun q p hq=>by
  rcases Nat.lt_or_ge q is.length with hlq|hlq
  ·have hi:is[q]? =some is[q]:=List.getElem?_eq_getElem hlq
   rw [backN_lt hi]
   show r2 is[q]=some p
   rw [r2is hi];exact hq
  ·rw [backN_ge hlq]
   have hd:=S.dom q p hq
   show r2 (j+(q-is.length))=some p
   rw [r2new ⟨by omega,by show _<j+(h1.length-is.length);omega⟩,show is.length+(j+(q-is.length)-j)=q by omega]
   exact hq
 have hle:Env.Le e e2:=⟨fun i p hp=>up i p hp,fun n x hx=>by
  show (if n<w.heap.size then e.z n else e'.z n)=some x
  rw [if_pos (R.zlt hx)];exact hx,Nat.le_refl _⟩
 let e1:Env:={e' with z:=z2}
 have zt:t=true→∀n x,e'.n0≤n→e'.z n=some x→z2 n=some x:=fun ht n x hn hx=>by
  show (if n<w.heap.size then e.z n else e'.z n)=some x
  rw [if_neg (by rw [hn0,ht] at hn;simp only [n0C] at hn;omega)];exact hx
 have zf:t=false→∀n x,e'.z n=some x→z2 n=some x:=fun ht n x hx=>by
  show (if n<w.heap.size then e.z n else e'.z n)=some x
  by_cases hn:n<w.heap.size
  ·rw [if_pos hn]
   rcases S.zfresh n x hx with q|q
   ·have q':zC e w is t n=some x:=q
    rw [ht] at q';exact q'
   ·exact absurd q (by show ¬w.heap.size≤n;omega)
  ·rw [if_neg hn];exact hx
 have toE1V:∀{u:SV} {u':Value},(t=true→stale u=false)→VR e' u u'→VR e1 u u':=fun {u u'} hs hu=>by
  by_cases ht:t=true
  ·exact VR.fresh (e:=e') (e':=e1) rfl (zt ht) (Nat.le_refl _) (hs ht) hu
  ·exact VR.mono' (e:=e') (e':=e1) (zf (by simpa using ht)) (Nat.le_refl _) u u' (fun _ _ _ h=>h) hu
 have toE1P:∀{u:List SV} {u':List Value},(t=true→staleL u=false)→PR e' u u'→PR e1 u u':=fun {u u'} hs hu=>by
  by_cases ht:t=true
  ·exact PR.fresh (e:=e') (e':=e1) rfl (zt ht) (Nat.le_refl _) (hs ht) hu
  ·exact PR.mono' (e:=e') (e':=e1) (zf (by simpa using ht)) (Nat.le_refl _) u u' (fun _ _ _ h=>h) hu
 have hle12:e2.n0≤e1.n0:=by show e.n0≤e'.n0;omega
 refine ⟨v',rfl,e2,VR.ren (e:=e1) (e':=e2) (fun _ _ h=>h) hle12 v v' (fun q p _ hp=>back q p hp) (toE1V (fun ht=>(hst ht).1) hv),?_,EStep.of_le hle rfl _⟩
 have hbl:(backH is j h h1).length=h.length:=setAll_length
 have hnl:(backNew is j h1).length=nn:=by simp [backNew,nn]
 have hf2:Free (backH is j h h1) j (backNew is j h1).length:=by
  rw [hnl]
  rcases hj with hj|hg
  ·exact .inl (by rw [hbl];exact hj)
  ·refine .inr fun i hi=>?_
   unfold backH
   rw [setAll_ne (fun hm=>newNot (j+i) ⟨by omega,by omega⟩ (by simpa using hm))]
   exact hg i hi
 have blkAt:∀(q i:Nat),(is[q]? =some i∨(is.length≤q∧(j≤i∧i<j+nn)∧q=is.length+(i-j)))→e2.r i=e'.r q∧(∀qs,h1[q]? =some (.b qs)→(psize (renL (backN is j) qs)=0∧e2.r i=none)∨∃p o,e2.r i=some p∧w'.heap[p.n]? =some o∧BR e2 p (renL (backN is j) qs) o)∧(∀g,h1[q]? =some (.g g)→e2.r i=none):=fun q i hqi=>by
  have hre:e2.r i=e'.r q:=by
   rcases hqi with hq|⟨_,hq,rfl⟩
   ·exact r2is hq
   ·exact r2new hq
  refine ⟨hre,fun qs hq=>?_,fun g hq=>by rw [hre];exact (S.gap q g hq).1⟩
  rcases S.blk q qs hq with ⟨g1,g2⟩|⟨p,o,g1,g2,c,ty,rfl,g3,g4,g5⟩
  ·exact .inl ⟨by rw [psize_renL];exact g1,by rw [hre];exact g2⟩
  ·refine .inr ⟨p,_,by rw [hre];exact g1,g2,c,ty,rfl,g3,by rw [psize_renL];exact g4,?_⟩
   rw [psize_renL]
   exact PR.ren (e:=e1) (e':=e2) (fun _ _ h=>h) hle12 qs _ (fun b p _ hp=>back b p hp) (toE1P (fun ht=>(hst ht).2 _ (List.mem_of_getElem? hq)) g5)
 have get2:∀(i:Nat) (b:Blk),(placeH (backH is j h h1) j (backNew is j h1))[i]? =some b→(∃q c,(is[q]? =some i∨(is.length≤q∧(j≤i∧i<j+nn)∧q=is.length+(i-j)))∧h1[q]? =some c∧b=renB (backN is j) c)∨(i ∉ is∧¬(j≤i∧i<j+nn)∧h[i]? =some b):=fun i b hi=>by
  rw [placeH_get hf2,hnl] at hi
  split at hi
  ·rename_i hc
   simp only [backNew,List.getElem?_map,List.getElem?_drop] at hi
   obtain ⟨c,h2,h3⟩:=Option.map_eq_some_iff.1 hi
   exact .inl ⟨is.length+(i-j),c,.inr ⟨by omega,hc,rfl⟩,h2,h3.symm⟩
  ·rename_i hc
   by_cases hm:i∈is
   ·obtain ⟨q,hq⟩:=List.mem_iff_getElem?.1 hm
    have hql:=(List.getElem?_eq_some_iff.1 hq).1
    unfold backH at hi
    rw [setAll_get hnd hq (hlt hq) (by simp;omega),List.getElem?_map,List.getElem?_take_of_lt hql] at hi
    obtain ⟨c,h2,h3⟩:=Option.map_eq_some_iff.1 hi
    exact .inl ⟨q,c,.inl hq,h2,h3.symm⟩
   ·unfold backH at hi
    rw [setAll_ne hm] at hi
    exact .inr ⟨hm,hc,hi⟩
 exact {
  os:=S.os.trans R.os,tape:=S.tape.trans R.tape,output:=S.output.trans R.output,size:=Nat.le_trans R.size S.size
  inj:=fun i i' p q hi hi' hpq=>by
   rcases cases2 i p hi with ⟨a,h2,h3⟩|⟨h2,h3⟩|⟨h2,h4,h3⟩<;>rcases cases2 i' q hi' with ⟨b,g2,g3⟩|⟨g2,g3⟩|⟨g2,g4,g3⟩
   ·have:=S.inj _ _ p q h3 g3 hpq
    subst this
    rw [h2] at g2;cases g2;rfl
   ·have:=S.inj _ _ p q h3 g3 hpq
    have:=(List.getElem?_eq_some_iff.1 h2).1
    omega
   ·exact absurd hpq (cross h3 g3 g2)
   ·have:=S.inj _ _ p q h3 g3 hpq
    have:=(List.getElem?_eq_some_iff.1 g2).1
    omega
   ·have:=S.inj _ _ p q h3 g3 hpq
    omega
   ·exact absurd hpq (cross h3 g3 g2)
   ·exact absurd hpq.symm (cross g3 h3 h2)
   ·exact absurd hpq.symm (cross g3 h3 h2)
   ·exact R.inj _ _ p q h3 g3 hpq
  dom:=fun i p hi=>by
   rcases cases2 i p hi with ⟨a,h2,h3⟩|⟨h2,h3⟩|⟨h2,h4,h3⟩
   ·exact Nat.lt_of_lt_of_le (by rw [hbl];exact hlt h2) placeH_length
   ·have:=placeH_in hf2 (i:=i-j) (by rw [hnl];omega)
    rwa [show j+(i-j)=i by omega] at this
   ·exact Nat.lt_of_lt_of_le (by rw [hbl];exact R.dom i p h3) placeH_length
  sep:=fun i p hi=>by
   have key:∀q,e'.r q=some p→z2 p.n=none:=fun q hq=>by
    show (if p.n<w.heap.size then e.z p.n else e'.z p.n)=none
    split
    ·rename_i hlp
     rcases snew q p hq with ⟨a,_,h2⟩|h
     ·exact R.sep a p h2
     ·omega
    ·exact S.sep q p hq
   rcases cases2 i p hi with ⟨a,h2,h3⟩|⟨h2,h3⟩|⟨h2,h4,h3⟩
   ·exact key _ h3
   ·exact key _ h3
   ·show (if p.n<w.heap.size then e.z p.n else e'.z p.n)=none
    rw [if_pos (R.lt h3)];exact R.sep i p h3
  zok:=fun n c ty fr hx=>by
   have hx':(if n<w.heap.size then e.z n else e'.z n)=some (c,ty,fr):=hx
   split at hx'
   ·rename_i hn
    rw [sold n hn (fun i p hi hp hpn=>by subst hpn;rw [R.sep i p hp] at hx';cases hx')]
    exact R.zok n c ty fr hx'
   ·exact S.zok n c ty fr hx'
  zfresh:=fun n x hx=>by
   have hx':(if n<w.heap.size then e.z n else e'.z n)=some x:=hx
   split at hx'
   ·exact R.zfresh n x hx'
   ·exact .inr (by have:=R.size;omega)
  glb:=fun g k xs hg=>(R.glb g k xs hg).imp fun c ⟨ty,fr,h1,h2⟩=>⟨ty,fr,hle.z _ _ h1,h2⟩
  news:=fun i p hi=>by
   have key:∀q,e'.r q=some p→(∀a,is[q]? =some a→a=i)→B.e.r i=some p∨B.w.heap.size≤p.n:=fun q hq ha=>by
    rcases snew q p hq with ⟨a,h1,h2⟩|h
    ·have:=ha a h1;subst this;exact R.news _ p h2
    ·exact .inr (Nat.le_trans R.size h)
   rcases cases2 i p hi with ⟨a,h2,h3⟩|⟨h2,h3⟩|⟨h2,h4,h3⟩
   ·exact key a h3 fun b hb=>by rw [h2] at hb;cases hb;rfl
   ·exact key _ h3 fun b hb=>by have:=(List.getElem?_eq_some_iff.1 hb).1;omega
   ·exact R.news i p h3
  keepr:=fun i p hi=>up i p (R.keepr i p hi)
  keepz:=fun n x hx=>hle.z n x (R.keepz n x hx)
  n0:=R.n0,n0le:=R.n0le
  blk:=fun i ps hi=>by
   rcases get2 i _ hi with ⟨q,c,hq,hc,hb⟩|⟨hni,hnn',hb⟩
   ·cases c with
    |g _=>cases hb
    |b qs=>
     simp only [renB,Blk.b.injEq] at hb
     subst hb
     exact (blkAt q i hq).2.1 qs hc
   ·have hre:e2.r i=e.r i:=r2old (by simpa using hni) hnn'
    rcases R.blk i ps hb with ⟨g1,g2⟩|⟨p,o,g1,g2,g3⟩
    ·exact .inl ⟨g1,by rw [hre];exact g2⟩
    ·refine .inr ⟨p,o,by rw [hre];exact g1,?_,g3.mono hle⟩
     rw [sold p.n (R.lt g1) (fun a p' ha hp' hpn=>hni (by have:=R.inj a i p' p hp' g1 hpn;subst this;exact ha))]
     exact g2
  gap:=fun i g hi=>by
   rcases get2 i _ hi with ⟨q,c,hq,hc,hb⟩|⟨hni,hnn',hb⟩
   ·cases c with
    |b qs=>cases hb
    |g g'=>
     simp only [renB,Blk.g.injEq] at hb
     subst hb
     exact ⟨(blkAt q i hq).2.2 _ hc,trivial⟩
   ·refine ⟨?_,(R.gap i g hb).2.le (fun n o hn=>?_) rfl hle⟩
    ·show r2 i=none
     rw [r2old (by simpa using hni) hnn'];exact (R.gap i g hb).1
    ·rw [sold n (Array.getElem?_eq_some_iff.1 hn).1 (fun i p _ hp hpn=>by
      subst hpn
      obtain ⟨c,ty,hc,_⟩:=R.isCells hp
      rw [hc] at hn;cases hn)]
     exact hn
  yi:=R.yi,yb:=R.yb
  old:=fun n hn hno hnl=>by
   rw [sold n (by have:=R.size;omega) (fun i p hi hp hpn=>by
    rcases R.news i p hp with q|q
    ·exact hno i p q hpn
    ·omega)]
   exact R.old n hn hno hnl
  win:=fun i p hi=>by
   obtain ⟨o,o',g1,g2,g3⟩:=R.win i p hi
   have hp:=R.keepr i p hi
   by_cases hm:i∈is
   ·obtain ⟨q,hq⟩:=List.mem_iff_getElem?.1 hm
    obtain ⟨x,x',k1,k2,k3⟩:=S.win q p (by show (is[q]?).bind e.r=some p;rw [hq];exact hp)
    have k1':w.heap[p.n]? =some x:=k1
    rw [g2] at k1';cases k1'
    exact ⟨o,x',g1,k2,g3.trans k3⟩
   ·exact ⟨o,o',g1,by rw [sold p.n (R.lt hp) (fun a p' ha hp' hpn=>hm (by have:=R.inj a i p' p hp' hp hpn;subst this;exact ha))];exact g2,g3⟩
  kr:=R.kr
  kle:=by have:=R.kle;have:=placeH_length (h:=backH is j h h1) (j:=j) (new:=backNew is j h1);omega
  mks:=fun r hr=>by
   have hm:=R.mks r hr
   rw [sold r (Array.getElem?_eq_some_iff.1 hm.1).1 (fun i p _ hp hpn=>by
    subst hpn
    obtain ⟨c,ty,hc,_⟩:=R.isCells hp
    have h9:=hm.1
    rw [hc] at h9;cases h9)]
   exact hm
  mnd:=R.mnd}
def Entry.mut (f:FuncId) (fn:Func) (hf:P.funcs[f]? =some fn) (hn:(fn.name != "runtime.NumGoroutine")=true) (hb:fn.body.isSome=true) (pick:List SV→List Blk→List Nat) (nb:Nat) (F:List SV→List Blk→Option (SV×List Blk×Bool))
  (ok:∀us h0 v h1,F us h0=some (v,h1,true)→FnTr P f us h0 v h1):Entry P where
 f:=f
 g:=fun vs h j=>match pickH h (pick vs h),absL (pick vs h) (hide (pick vs h) h) vs with
  |some l,some (us,p,t)=>match decide (pick vs h).Nodup&&l.all (refsInL (pick vs h))&&(!t||l.all noRoL) with
   |true=>match F us (l.map fun ps=>.b (renL (fun b=>(pick vs h).idxOf b) ps)) with
    |some (v,h1,q)=>match t&&(stale v||h1.any staleB) with
     |true=>none
     |false=>some (ren (backN (pick vs h) j) v,backH (pick vs h) j h h1,backNew (pick vs h) j h1,andT p q)
    |none=>none
   |false=>none
  |_,_=>none
 pf:=2
 nb:=nb
 ok:=by
  intro vs h j v h' new g B e w args hla R hj
  generalize hpk:pick vs h=is at g
  split at g
  ·rename_i l us p t hl habs
   split at g
   ·rename_i hc
    simp only [Bool.and_eq_true,decide_eq_true_eq,List.all_eq_true] at hc
    obtain ⟨⟨hnd,href⟩,hnr⟩:=hc
    split at g
    ·rename_i u h1 q hF
     split at g
     ·cases g
     ·rename_i hs
      simp only [Option.some.injEq,Prod.mk.injEq,andT_iff] at g
      obtain ⟨rfl,rfl,rfl,rfl,rfl⟩:=g
      have hbn:fn.body≠none:=fun q=>by rw [q] at hb;cases hb
      refine .inr ⟨callFunc_enter hf (by simpa using hn) hbn _ w,?_⟩
      refine mut_call (ok us _ u h1 hF) hnd hl href (fun ht ps hps=>?_) habs (fun ht=>?_) hla R (by simpa [backNew] using hj)
      ·rw [ht] at hnr
       simp only [Bool.not_true,Bool.false_or,List.all_eq_true] at hnr
       exact hnr ps hps
      ·rw [ht,Bool.true_and,Bool.or_eq_false_iff] at hs
       refine ⟨hs.1,fun b hb=>?_⟩
       cases hq:staleB b with
       |false=>rfl
       |true=>
        have:h1.any staleB=true:=List.any_eq_true.2 ⟨b,hb,hq⟩
        rw [this] at hs;cases hs.2
    ·cases g
   ·cases g
  ·cases g
 pu:=⟨(fun h=>by cases h),(fun h=>by cases h)⟩
theorem ren_back {is:List Nat} {j:Nat}:∀{b:Nat},is.contains b=true→backN is j (is.idxOf b)=b:=fun hb=>backN_lt (idx_get hb)
mutual
theorem renS_back {is:List Nat} {j:Nat}:∀{v:SV},refsIn is v=true→ren (backN is j) (ren (fun b=>is.idxOf b) v)=v
 | .ptr b o i,h=>by simp only [refsIn] at h;simp only [ren,ren_back h]
 | .sl b o i z len cap ex wh,h=>by simp only [refsIn] at h;simp only [ren,ren_back h]
 | .agg ps,h=>by simp only [refsIn] at h;simp only [ren,renLs_back h]
 | .tup ps,h=>by simp only [refsIn] at h;simp only [ren,renLs_back h]
 | .iface t x,h=>by simp only [refsIn] at h;simp only [ren,renS_back h]
 | .fn f a b,h=>by simp only [refsIn,Bool.and_eq_true] at h;simp only [ren,renLs_back h.1,renLs_back h.2]
 | .bool _,_=>rfl
 | .int _ _,_=>rfl
 | .str _,_=>rfl
 | .nl _,_=>rfl
 | .ints _ _ _,_=>rfl
 | .ro _ _ _,_=>rfl
 | .rob _ _,_=>rfl
 | .rol _ _ _ _,_=>rfl
 | .rpi _ _ _,_=>rfl
 | .rpb _ _ _,_=>rfl
 | .rpl _ _ _ _ _ _ _,_=>rfl
 | .rows _ _ _,_=>rfl
 | .rsl b _ _ _ _,h=>by simp only [refsIn] at h;simp only [ren,ren_back h]
 | .rptr b _ _ _ _,h=>by simp only [refsIn] at h;simp only [ren,ren_back h]
 | .mpv b,h=>by simp only [refsIn] at h;simp only [ren,ren_back h]
 | .glb _ _,_=>rfl
theorem renLs_back {is:List Nat} {j:Nat}:∀{vs:List SV},refsInL is vs=true→renL (backN is j) (renL (fun b=>is.idxOf b) vs)=vs
 | [],_=>rfl
 |x::xs,h=>by
  simp only [refsInL,Bool.and_eq_true] at h
  simp only [renL,renS_back h.1,renLs_back h.2]
end
theorem setAll_same:∀{h:List Blk} {is:List Nat} {bs:List Blk},(∀(q i:Nat),is[q]? =some i→bs[q]? =h[i]?)→is.Nodup→setAll h is bs=h
 |_,[],_,_,_=>by simp [setAll]
 |_,_::_,[],_,_=>by simp [setAll]
 |h,a::is,b::bs,hq,hn=>by
  simp only [setAll]
  have h0:h[a]? =some b:=(hq 0 a rfl).symm
  have hs:h.set a b=h:=by
   apply List.ext_getElem?
   intro x
   by_cases hx:a=x
   ·subst hx;rw [List.getElem?_set_self (List.getElem?_eq_some_iff.1 h0).1,h0]
   ·rw [List.getElem?_set_ne hx]
  rw [hs]
  exact setAll_same (fun q i hi=>by simpa using hq (q+1) i (by simpa using hi)) (List.nodup_cons.1 hn).2
theorem hide_le {is:List Nat} {h h2:List Blk} (hle:BLe h h2):BLe (hide is h) (hide is h2):=fun i ps hi=>by
 rw [hide_get] at hi ⊢
 cases hb:h[i]? with
 |none=>rw [hb] at hi;simp at hi
 |some b=>
  rw [hb] at hi
  cases b with
  |g o=>cases hc:is.contains i<;>rw [hc] at hi<;>simp at hi
  |b qs=>rw [hle i qs hb];exact hi
mutual
theorem absS_le {is:List Nat} {h h2:List Blk} (hle:BLe h h2):∀{v:SV} {q:SV×Bool×Bool},absS is h v=some q→absS is h2 v=some q
 | .ptr _ _ _,q,g=>by simp only [absS] at g ⊢;exact g
 | .sl b o i z len cap ex wh,q,g=>by
  simp only [absS] at g ⊢
  split
  ·rename_i hc;rw [if_pos hc] at g;exact g
  ·rename_i hc;rw [if_neg hc] at g;exact frzS_le hle g
 | .fn f a b,q,g=>by
  simp only [absS] at g ⊢
  split at g
  ·rename_i x p s y q' t ha hb;rw [absL_le hle ha,absL_le hle hb];exact g
  ·cases g
 | .agg ps,q,g=>by
  simp only [absS] at g ⊢
  split at g
  ·rename_i l p t hl;rw [absL_le hle hl];exact g
  ·cases g
 | .iface ty x,q,g=>by
  simp only [absS] at g ⊢
  split at g
  ·rename_i y p t hl;rw [absS_le hle hl];exact g
  ·cases g
 | .bool _,q,g=>by simp only [absS] at g ⊢;exact frzS_le hle g
 | .int _ _,q,g=>by simp only [absS] at g ⊢;exact frzS_le hle g
 | .str _,q,g=>by simp only [absS] at g ⊢;exact frzS_le hle g
 | .nl _,q,g=>by simp only [absS] at g ⊢;exact frzS_le hle g
 | .ints _ _ _,q,g=>by simp only [absS] at g ⊢;exact frzS_le hle g
 | .ro _ _ _,q,g=>by simp only [absS] at g ⊢;exact frzS_le hle g
 | .rob _ _,q,g=>by simp only [absS] at g ⊢;exact frzS_le hle g
 | .rol _ _ _ _,q,g=>by simp only [absS] at g ⊢;exact frzS_le hle g
 | .rpi _ _ _,q,g=>by simp [absS] at g
 | .rpb _ _ _,q,g=>by simp [absS] at g
 | .rpl _ _ _ _ _ _ _,q,g=>by simp [absS] at g
 | .tup _,q,g=>by simp [absS] at g
 | .rows _ _ _,q,g=>by simp [absS] at g
 | .rsl b z len cap ex,q,g=>by
  simp only [absS] at g ⊢
  split
  ·rename_i hc;rw [if_pos hc] at g;exact g
  ·rename_i hc;rw [if_neg hc] at g;exact frzS_le hle g
 | .rptr b z e o i,q,g=>by simp only [absS] at g ⊢;exact g
 | .mpv b,q,g=>by simp only [absS] at g ⊢;exact g
 | .glb _ _,q,g=>by simp [absS] at g
theorem absL_le {is:List Nat} {h h2:List Blk} (hle:BLe h h2):∀{v:List SV} {q:List SV×Bool×Bool},absL is h v=some q→absL is h2 v=some q
 | [],q,g=>by simp only [absL] at g ⊢;exact g
 |x::xs,q,g=>by
  simp only [absL] at g ⊢
  split at g
  ·rename_i y p a l q' b hx hl
   rw [absS_le hle hx,absL_le hle hl];exact g
  ·cases g
end
theorem pickH_le {h h2:List Blk} (hle:BLe h h2):∀{is:List Nat} {l:List (List SV)},pickH h is=some l→pickH h2 is=some l
 | [],l,g=>g
 |i::is,l,g=>by
  simp only [pickH] at g ⊢
  split at g
  ·rename_i ps l' h1 h2'
   rw [hle i ps h1,pickH_le hle h2'];exact g
  ·cases g
def Entry.rdm (f:FuncId) (fn:Func) (hf:P.funcs[f]? =some fn) (hn:(fn.name != "runtime.NumGoroutine")=true) (hb:fn.body.isSome=true) (pick:List SV→List Nat) (F:List SV→List Blk→Option (SV×Bool))
  (ok:∀us h0 v,F us h0=some (v,true)→FnTr P f us h0 v h0):Entry P where
 f:=f
 g:=fun vs h j=>match pickH h (pick vs),absL (pick vs) (hide (pick vs) h) vs with
  |some l,some (us,p,t)=>match decide (pick vs).Nodup&&l.all (refsInL (pick vs))&&(!t||l.all noRoL) with
   |true=>match F us (l.map fun ps=>.b (renL (fun b=>(pick vs).idxOf b) ps)) with
    |some (v,q)=>match t&&(stale v||(l.map fun ps=>Blk.b (renL (fun b=>(pick vs).idxOf b) ps)).any staleB) with
     |true=>none
     |false=>some (ren (backN (pick vs) j) v,h,[],andT p q)
    |none=>none
   |false=>none
  |_,_=>none
 pf:=1
 nb:=0
 ok:=by
  intro vs h j v h' new g B e w args hla R hj
  generalize hpk:pick vs=is at g
  split at g
  ·rename_i l us p t hl habs
   split at g
   ·rename_i hc
    simp only [Bool.and_eq_true,decide_eq_true_eq,List.all_eq_true] at hc
    obtain ⟨⟨hnd,href⟩,hnr⟩:=hc
    split at g
    ·rename_i u q hF
     split at g
     ·cases g
     ·rename_i hs
      simp only [Option.some.injEq,Prod.mk.injEq,andT_iff] at g
      obtain ⟨rfl,rfl,rfl,rfl,rfl⟩:=g
      have hbn:fn.body≠none:=fun q=>by rw [q] at hb;cases hb
      obtain ⟨hlen,hget⟩:=pickH_get hl
      refine .inr ⟨callFunc_enter hf (by simpa using hn) hbn _ w,?_⟩
      have hnw:backNew is j (l.map fun ps=>.b (renL (fun b=>is.idxOf b) ps))=[]:=by
       unfold backNew
       rw [List.drop_eq_nil_of_le (by simp [hlen])];rfl
      have hbk:backH is j h (l.map fun ps=>.b (renL (fun b=>is.idxOf b) ps))=h:=by
       unfold backH
       refine setAll_same (fun q i hi=>?_) hnd
       obtain ⟨ps,h1,h2⟩:=hget q i hi
       have hq:q<is.length:=(List.getElem?_eq_some_iff.1 hi).1
       rw [List.getElem?_map,List.getElem?_take_of_lt hq,List.getElem?_map,h1,h2]
       simp only [Option.map_some,renB,Option.some.injEq,Blk.b.injEq]
       exact renLs_back (href ps (List.mem_of_getElem? h1))
      refine (mut_call (j:=j) (ok us _ u hF) hnd hl href (fun ht ps hps=>?_) habs (fun ht=>?_) hla R ?_).mono ?_
      ·rw [ht] at hnr
       simp only [Bool.not_true,Bool.false_or,List.all_eq_true] at hnr
       exact hnr ps hps
      ·rw [ht,Bool.true_and,Bool.or_eq_false_iff] at hs
       refine ⟨hs.1,fun b hb=>?_⟩
       cases hq:staleB b with
       |false=>rfl
       |true=>
        have:(l.map fun ps=>Blk.b (renL (fun b=>is.idxOf b) ps)).any staleB=true:=List.any_eq_true.2 ⟨b,hb,hq⟩
        rw [this] at hs;cases hs.2
      ·simpa [hlen] using hj
      ·rintro en w' ⟨v',rfl,e2,h1,h2,h3⟩
       rw [hbk,hnw] at h2
       exact ⟨v',rfl,e2,h1,h2,h3⟩
    ·cases g
   ·cases g
  ·cases g
 pu:=by
  refine ⟨(fun h=>by cases h),fun _ vs h j v h' new p g=>?_⟩
  split at g
  ·rename_i l us p1 t hl habs
   split at g
   ·rename_i hc
    split at g
    ·rename_i u q hF
     split at g
     ·cases g
     ·rename_i hs
      simp only [Option.some.injEq,Prod.mk.injEq] at g
      obtain ⟨rfl,rfl,rfl,rfl⟩:=g
      refine ⟨rfl,fun h2 hle=>?_⟩
      rw [pickH_le hle hl,absL_le (hide_le hle) habs]
      simp only
      rw [hc];simp only;rw [hF];simp only;rw [hs]
    ·cases g
   ·cases g
  ·cases g
end
end Go.Sy
namespace Go.Sy
open Go
theorem PE.lst (k:IntKind) (n:Nat) (l:List Int):PE [.ints k n l] [.ints k n (lst n l)]:=⟨rfl,fun e xs ⟨zs,h1,h2⟩=>⟨zs,h1,by rw [h2,lst_self]⟩⟩
theorem VE.agg {ps qs:List SV} (h:PE ps qs):VE (.agg ps) (.agg qs):=fun e _ ⟨ys,h1,h2⟩=>⟨ys,h.2 e ys h1,h2⟩
theorem VE.refl (v:SV):VE v v:=fun _ _ h=>h
theorem PE.refl (ps:List SV):PE ps ps:=⟨rfl,fun _ _ h=>h⟩
def VEL:List SV→List SV→Prop
 | [],[]=>True
 |x::xs,y::ys=>VE x y∧VEL xs ys
 |_,_=>False
theorem VEL.get:∀{xs ys:List SV},VEL xs ys→xs.length=ys.length∧∀(i:Nat) (y:SV),ys[i]? =some y→∃x,xs[i]? =some x∧VE x y
 | [],[],_=>⟨rfl,fun i y h=>by simp at h⟩
 | [],_::_,h=>h.elim
 |_::_,[],h=>h.elim
 |x::xs,y::ys,⟨h1,h2⟩=>by
  obtain ⟨h3,h4⟩:=VEL.get h2
  refine ⟨by simp [h3],fun i z hi=>?_⟩
  cases i with
  |zero=>simp at hi;subst hi;exact ⟨x,rfl,h1⟩
  |succ i=>simp at hi;obtain ⟨u,h5,h6⟩:=h4 i z hi;exact ⟨u,by simpa using h5,h6⟩
def PEL:List Blk→List Blk→Prop
 | [],[]=>True
 | .b ps::xs,.b qs::ys=>PE ps qs∧PEL xs ys
 | .g a::xs,.g b::ys=>a=b∧PEL xs ys
 |_,_=>False
theorem PEL.get:∀{xs ys:List Blk},PEL xs ys→xs.length=ys.length∧(∀(i:Nat) (qs:List SV),ys[i]? =some (.b qs)→∃ps,xs[i]? =some (.b ps)∧PE ps qs)∧(∀(i:Nat) (g:Option Lp),ys[i]? =some (.g g)→xs[i]? =some (.g g))
 | [],[],_=>⟨rfl,(fun i y h=>by simp at h),fun i g h=>by simp at h⟩
 | .b ps::xs,.b qs::ys,⟨h1,h2⟩=>by
  obtain ⟨h3,h4,h5⟩:=PEL.get h2
  refine ⟨by simp [h3],fun i z hi=>?_,fun i g hi=>?_⟩
  ·cases i with
   |zero=>simp at hi;subst hi;exact ⟨ps,rfl,h1⟩
   |succ i=>simp at hi;obtain ⟨u,h5,h6⟩:=h4 i z hi;exact ⟨u,by simpa using h5,h6⟩
  ·cases i with
   |zero=>simp at hi
   |succ i=>simp at hi;simpa using h5 i g hi
 | .g a::xs,.g b::ys,⟨h1,h2⟩=>by
  subst h1
  obtain ⟨h3,h4,h5⟩:=PEL.get (xs:=xs) (ys:=ys) h2
  refine ⟨by simp [h3],fun i z hi=>?_,fun i g hi=>?_⟩
  ·cases i with
   |zero=>simp at hi
   |succ i=>simp at hi;obtain ⟨u,h5,h6⟩:=h4 i z hi;exact ⟨u,by simpa using h5,h6⟩
  ·cases i with
   |zero=>simp at hi ⊢;exact hi
   |succ i=>simp at hi;simpa using h5 i g hi
 | [],_::_,h=>by simp [PEL] at h
 |_::_,[],h=>by simp [PEL] at h
 | .b _::_,.g _::_,h=>by simp [PEL] at h
 | .g _::_,.b _::_,h=>by simp [PEL] at h
theorem Ent.blks {k:Nat} {t:List (Option SV)} {h h':List Blk} {o o':Bool} (g:PEL h h'):Ent k ⟨t,h,o⟩ ⟨t,h',o'⟩:=by
 obtain ⟨h1,h2,h3⟩:=g.get
 exact Ent.mono rfl (fun i v' hi=>⟨v',hi,VE.refl _⟩) h1.symm h2 h3
theorem Ent.all {k:Nat} {as bs:List SV} {h h':List Blk} {o o':Bool} (ga:VEL as bs) (g:PEL h h'):Ent k ⟨as.map some,h,o⟩ ⟨bs.map some,h',o'⟩:=by
 obtain ⟨h1,h2,h3⟩:=g.get
 obtain ⟨g1,g2⟩:=ga.get
 refine Ent.mono (by simp [g1]) (fun i v' hi=>?_) h1.symm h2 h3
 rw [List.getElem?_map] at hi
 obtain ⟨y,hy,q⟩:=Option.map_eq_some_iff.1 hi
 cases q
 obtain ⟨x,hx,hv⟩:=g2 i v' hy
 exact ⟨x,by simp [hx],hv⟩
section
variable {P:Program}
theorem call0 {Γ:Ctr} (hΓ:CtrSound P Γ) (n:Nat) {f:FuncId} {fn:Func} (hf:P.funcs[f]? =some fn) {args:List SV} {v:SV} {p:Bool} (e:(callS P Γ n fn args []).map (fun x=>(x.1,x.2.2))=some (v,p)) (hp:p=true) (hr:refsIn [] v=true):FnTr P f args [] v []:=by
 obtain ⟨⟨u,h1,q⟩,he,e⟩:=Option.map_eq_some_iff.1 e
 simp only [Prod.mk.injEq] at e
 obtain ⟨rfl,rfl⟩:=e
 subst hp
 have key:∀u:SV,ren (fun b=>([]:List Nat).idxOf b) u=u∨True:=fun _=>.inr trivial
 refine (FnTr.of_callS hΓ hf he).post (Ent.trans (Ent.trunc (n:=0) (s':=⟨[some u],[],true⟩) (Nat.le_refl _) ?_) (Ent.refl _ _))
 unfold St.trunc
 rw [if_pos]
 ·rfl
 ·simp only [List.range_zero,List.all_cons,List.all_nil,Bool.and_true,List.take_zero,hr]
theorem callM {Γ:Ctr} (hΓ:CtrSound P Γ) (n:Nat) {f:FuncId} {fn:Func} (hf:P.funcs[f]? =some fn) {args:List SV} {h h1:List Blk} {v:SV} {p:Bool} (m:Nat) (hm:h.length≤m)
  (e:(callS P Γ n fn args h).map (fun x=>(x.1,x.2.1.take m,x.2.2))=some (v,h1,p)) (hp:p=true) (hr:refsIn (List.range m) v=true) (hb:h1.all (blkIn m)=true):FnTr P f args h v h1:=by
 obtain ⟨⟨u,h2,q⟩,he,e⟩:=Option.map_eq_some_iff.1 e
 simp only [Prod.mk.injEq] at e
 obtain ⟨rfl,rfl,rfl⟩:=e
 subst hp
 refine (FnTr.of_callS hΓ hf he).post (Ent.trunc (n:=m) hm ?_)
 unfold St.trunc
 rw [if_pos]
 simp only [List.all_cons,List.all_nil,Bool.and_true,hr,hb]
theorem FnTr.conv {f:FuncId} {as bs:List SV} {h h2 h1 h3:List Blk} {v u:SV} (g:FnTr P f bs h2 v h1) (ga:VEL as bs) (gh:PEL h h2) (gv:VE v u) (gh':PEL h1 h3):FnTr P f as h u h3:=by
 have hlen:=gh.get.1
 refine (FnTr.pre g hlen (Ent.all ga gh)).post ?_
 exact Ent.all (as:=[v]) (bs:=[u]) ⟨gv,trivial⟩ gh'
theorem FnTr.restM {Γ:Ctr} (hΓ:CtrSound P Γ) (n m j:Nat) {f:FuncId} {fn:Func} (hf:P.funcs[f]? =some fn) {args:List SV} {h h':List Blk} {s:St} {v:SV} {p:Bool} (hj:h.length≤j) (hb:fn.body.isSome=true)
  (ht:∀s' x,TrL P none h.length ((atoms (bodyOf fn)).drop m) s x s'→TrL P none h.length (atoms (bodyOf fn)) ⟨slots0 fn.ntmps args,h,true⟩ x s')
  (e:((execA P Γ n h.length ((atoms (bodyOf fn)).drop m) s).bind fun r=>match r.1 with
   | .ret| .normal=>(resS P r.2.t r.2.h fn.results.toList).map fun q=>(oneOf q.1,r.2.h.take j,andT r.2.ob q.2)
   |_=>none)=some (v,h',p)) (hp:p=true) (hr:refsIn (List.range j) v=true) (hbl:h'.all (blkIn j)=true):FnTr P f args h v h':=by
 obtain ⟨⟨x,s'⟩,h1,e⟩:=Option.bind_eq_some_iff.1 e
 subst hp
 have key:∀(_:x= .ret∨x= .normal),((resS P s'.t s'.h fn.results.toList).map fun q=>(oneOf q.1,s'.h.take j,andT s'.ob q.2))=some (v,h',true)→FnTr P f args h v h':=fun hx e=>by
  obtain ⟨⟨vs,q⟩,hres,e⟩:=Option.map_eq_some_iff.1 e
  simp only [Prod.mk.injEq,andT_iff] at e
  obtain ⟨rfl,rfl,hob,rfl⟩:=e
  refine (FnTr.mk hf hb (ht s' x (TrL.rest hΓ n h1 hob)) hx hres).post (Ent.trunc (n:=j) hj ?_)
  unfold St.trunc
  rw [if_pos]
  simp only [List.all_cons,List.all_nil,Bool.and_true,hr,hbl]
 cases x<;>simp only at e<;>first|exact key (by simp) e|cases e
end
end Go.Sy
namespace Go.Sy
open Go
section
variable {P:Program} {B:Base} {e:Env} {h:List Blk} {w:World}
def Env.enter (e:Env) (h:List Blk) (n:Nat):Env:={e with m:=n::e.m,y:=fun i=>if i=h.length then some (n+1) else match lpAt h i with|some _=>e.y i|none=>none}
theorem enter_le (e:Env) (h:List Blk) (n:Nat):Env.Le e (e.enter h n):=⟨fun _ _ h=>h,fun _ _ h=>h,Nat.le_refl _⟩
theorem enter_y {i n:Nat} {L:Lp} (g:h[i]? =some (.g (some L))):(e.enter h n).y i=e.y i:=by
 show (if i=h.length then some (n+1) else match lpAt h i with|some _=>e.y i|none=>none)=e.y i
 rw [if_neg (by have:=(List.getElem?_eq_some_iff.1 g).1;omega),lpAt_of g]
theorem enter_y' (R:Rel B e h w) {i n m:Nat} (g:(e.enter h n).y i=some m):(i=h.length∧m=n+1)∨(i<h.length∧e.y i=some m∧m<w.heap.size):=by
 have g':(if i=h.length then some (n+1) else match lpAt h i with|some _=>e.y i|none=>none)=some m:=g
 split at g'
 ·rename_i hi;cases g';exact .inl ⟨hi,rfl⟩
 ·split at g'
  ·rename_i L hL
   have hL:=lpAt_eq hL
   obtain ⟨_,h1,r,h2,_⟩:=R.gap i _ hL
   rw [g'] at h1;cases h1
   exact .inr ⟨(List.getElem?_eq_some_iff.1 hL).1,g',(Array.getElem?_eq_some_iff.1 h2).1⟩
  ·cases g'
theorem Rel.enter (R:Rel B e h w) {t:List (Option SV)} {t':List Value} (hl:TR e t t') (fn:FuncId) (ps:Array Tmp) (asg body:Code):
  Rel B (e.enter h w.heap.size) (h++[.g (some ⟨w.heap.size+1,t,ps,asg,body,.ready,none⟩)]) ((w.alloc (.deferred (some []))).alloc (.loop {state:=.ready,pending:=none,fn,tmps:=⟨t'⟩,params:=ps,assign:=asg,body,defers:=w.heap.size})):=by
 generalize hrec:Obj.loop {state:=.ready,pending:=none,fn,tmps:=⟨t'⟩,params:=ps,assign:=asg,body,defers:=w.heap.size}=ob
 have hold:∀n,n<w.heap.size→((w.alloc (.deferred (some []))).alloc ob).heap[n]? =w.heap[n]? :=fun n hn=>(heap_alloc_old _ _ n (by rw [World.size_alloc];omega)).trans (heap_alloc_old w _ n hn)
 have hd:((w.alloc (.deferred (some []))).alloc ob).heap[w.heap.size]? =some (.deferred (some [])):=(heap_alloc_old _ _ _ (by rw [World.size_alloc];omega)).trans (heap_alloc_new w _)
 have hlp:((w.alloc (.deferred (some []))).alloc ob).heap[w.heap.size+1]? =some ob:=by
  have:=heap_alloc_new (w.alloc (.deferred (some []))) ob
  rwa [World.size_alloc] at this
 have le:=enter_le e h w.heap.size
 have get:∀(i:Nat) (b:Blk),(h++[.g (some ⟨w.heap.size+1,t,ps,asg,body,.ready,none⟩)])[i]? =some b→(i<h.length∧h[i]? =some b)∨(i=h.length∧b= .g (some ⟨w.heap.size+1,t,ps,asg,body,.ready,none⟩)):=fun i b hi=>by
  rcases Nat.lt_or_ge i h.length with h1|h1
  ·rw [List.getElem?_append_left h1] at hi;exact .inl ⟨h1,hi⟩
  ·rw [List.getElem?_append_right h1] at hi
   have:=(List.getElem?_eq_some_iff.1 hi).1
   simp at this
   have hq:i=h.length:=by omega
   subst hq
   simp at hi
   exact .inr ⟨rfl,hi.symm⟩
 exact {
  os:=R.os,tape:=R.tape,output:=R.output
  size:=by have:=R.size;rw [World.size_alloc,World.size_alloc];omega
  inj:=R.inj,dom:=fun i p hi=>by have:=R.dom i p hi;simp;omega
  sep:=R.sep
  zok:=fun n c ty fr hz=>by rw [hold n (R.zlt hz)];exact R.zok n c ty fr hz
  zfresh:=R.zfresh,glb:=R.glb,news:=R.news,keepr:=R.keepr,keepz:=R.keepz,n0:=R.n0,n0le:=R.n0le
  blk:=fun i qs hi=>by
   rcases get i _ hi with ⟨h1,h2⟩|⟨_,h2⟩
   ·rcases R.blk i qs h2 with g|⟨p,o,hq,ho,hbr⟩
    ·exact .inl g
    ·exact .inr ⟨p,o,hq,by rw [hold p.n (R.lt hq)];exact ho,hbr.mono le⟩
   ·cases h2
  gap:=fun i g hi=>by
   rcases get i _ hi with ⟨h1,h2⟩|⟨h1,h2⟩
   ·refine ⟨(R.gap i g h2).1,?_⟩
    have hg:=(R.gap i g h2).2
    cases g with
    |none=>trivial
    |some L=>exact hg.le (fun n o hn=>by rw [hold n (Array.getElem?_eq_some_iff.1 hn).1];exact hn) (enter_y h2) le
   ·cases h2
    refine ⟨?_,?_,_,by rw [hlp, ←hrec],rfl,rfl,rfl,rfl,rfl,hl.mono le⟩
    ·cases hq:e.r i with
     |none=>exact hq
     |some p=>have:=R.dom _ p hq;omega
    ·show (if i=h.length then _ else _)=_
     rw [if_pos h1]
  yi:=fun i j n hi hj=>by
   rcases enter_y' R hi with ⟨h1,h2⟩|⟨h1,h2,h3⟩<;>rcases enter_y' R hj with ⟨g1,g2⟩|⟨g1,g2,g3⟩
   ·omega
   ·omega
   ·omega
   ·exact R.yi i j n h2 g2
  yb:=fun i n hi=>by
   rcases enter_y' R hi with ⟨h1,h2⟩|⟨h1,h2,h3⟩
   ·exact .inr (by have:=R.size;omega)
   ·exact R.yb i n h2
  old:=fun n hn hno hnl=>by rw [hold n (by have:=R.size;omega)];exact R.old n hn hno hnl
  win:=fun i p hi=>by
   obtain ⟨o,o',h1,h2,h3⟩:=R.win i p hi
   exact ⟨o,o',h1,by rw [hold p.n (R.lt (R.keepr i p hi))];exact h2,h3⟩
  kr:=R.kr
  kle:=by have:=R.kle;simp;omega
  mks:=fun r hr=>by
   rcases List.mem_cons.1 hr with rfl|hr
   ·exact ⟨hd,R.size⟩
   ·have:=R.mks r hr
    exact ⟨by rw [hold r (Array.getElem?_eq_some_iff.1 this.1).1];exact this.1,this.2⟩
  mnd:=List.nodup_cons.2 ⟨fun hm=>by have:=(Array.getElem?_eq_some_iff.1 (R.mks _ hm).1).1;omega,R.mnd⟩}
theorem Rel.dropLoop (R:Rel B e h w) {i:Nat} {g:Option Lp} (hi:h[i]? =some (.g g)):Rel B e (h.set i .gap) w:={R with
 dom:=fun j p hj=>by simpa using R.dom j p hj
 blk:=fun j ps hj=>by
  by_cases hij:i=j
  ·subst hij;rw [List.getElem?_set_self (List.getElem?_eq_some_iff.1 hi).1] at hj;cases hj
  ·rw [List.getElem?_set_ne hij] at hj;exact R.blk j ps hj
 gap:=fun j g' hj=>by
  by_cases hij:i=j
  ·subst hij;rw [List.getElem?_set_self (List.getElem?_eq_some_iff.1 hi).1] at hj;cases hj;exact ⟨(R.gap i g hi).1,trivial⟩
  ·rw [List.getElem?_set_ne hij] at hj;exact R.gap j g' hj
 kle:=by simpa using R.kle}
end
section
variable {P:Program}
theorem Tr.range {k:Nat} {g:Operand} {ps:Array Tmp} {asg body:Code} {f:FuncId} {fn:Func} {first capt:List SV} {s:St} {v:SV} {h1:Nat→List Blk} {hf:List Blk} {q:Option Code} {x:Exit} (ob:Bool)
  (hfn:P.funcs[f]? =some fn) (hn:(fn.name != "runtime.NumGoroutine")=true) (hb:fn.body.isSome=true) (hg:ev s.t g=some (.fn (.func f) first capt))
  (hcall:∀l,FnTr P f (first++[.fn (.yield l) [] []]++capt) (s.h++[.g (some ⟨l,s.t,ps,asg,body,.ready,none⟩)]) v (h1 l))
  (hL:∀l,∃L,lpAt (h1 l) s.h.length=some L∧L.l=l∧L.st≠.busy∧L.pend=q) (hh:∀l,(h1 l).set s.h.length .gap=hf) (hx:jumpOf x=some q):
  Tr P none k (.rangeFunc g ps asg body) s x ⟨s.t,hf,ob⟩:=by
 intro B e w t' d Q nn hB hl R hQ
 refine wpIn_rangeFunc fun fnid _=>?_
 have R1:=R.enter hl fnid ps asg body
 generalize hW:(w.alloc (.deferred (some []))).alloc (.loop {state:=.ready,pending:=none,fn:=fnid,tmps:=⟨t'⟩,params:=ps,assign:=asg,body,defers:=w.heap.size})=W1 at R1
 obtain ⟨ys,us,hy,hu,hgv⟩:=ev_sound (d:=mkD e.m++d) hl hg
 have hargs:LR (e.enter s.h w.heap.size) (first++[.fn (.yield (w.heap.size+1)) [] []]++capt) (ys++[.func (.yield (w.heap.size+1)) #[] #[]]++us):=
  ((hy.mono (enter_le e _ _)).append (LR.one (show VR (e.enter s.h w.heap.size) (.fn (.yield (w.heap.size+1)) [] []) (.func (.yield (w.heap.size+1)) #[] #[]) from ⟨[],[],rfl,rfl,rfl⟩))).append (hu.mono (enter_le e _ _))
 have hbn:fn.body≠none:=fun q=>by rw [q] at hb;cases hb
 have henter:=callFunc_enter hfn (by simpa using hn) hbn ⟨ys++[.func (.yield (w.heap.size+1)) #[] #[]]++us⟩ W1
 refine ⟨w.heap.size+1,[{target:=.collected w.heap.size,args:=#[]}],W1,{target:=.fn (.func f) ⟨us⟩,args:=⟨ys++[.func (.yield (w.heap.size+1)) #[] #[]]⟩},W1,f,⟨ys++[.func (.yield (w.heap.size+1)) #[] #[]]++us⟩,W1,?_,?_,fun _ _=>trivial,?_,fun h=>by simp [wF,Fence.wide] at h,callsIn_wF.2 ?_⟩
 ·rw [←hW];exact run_enterLoop_outer _ _ _ _ _
 ·simp only [resolve,hgv,Deferred.ofValue,Sem.run_pure]
  congr 2
  apply Array.ext'
  simp [Act.eval]
 ·simp only [invoke]
  rw [←henter]
  congr 2
  apply Array.ext'
  simp
 ·refine (hcall (w.heap.size+1) _ _ W1 _ (Nat.le_refl _) (hargs.mono (bare_le _ _)) R1.self).mono ?_
  rintro en w' ⟨v',rfl,e',_,hv,S⟩
  have T:=R1.trans S
  obtain ⟨L,hLat,hLl,hLst,hLp⟩:=hL (w.heap.size+1)
  have hLi:=lpAt_eq hLat
  obtain ⟨_,_,r,hr,_,_,_,hst,hpd,_⟩:=T.gap _ _ hLi
  have T2:=T.setLoop hLi hr .exhausted L.pend
  have T3:=T2.dropLoop (i:=s.h.length) (List.getElem?_set_self (List.getElem?_eq_some_iff.1 hLi).1)
  rw [List.set_set,hh] at T3
  rw [hLl] at hr
  refine ⟨r.pending,_,run_endLoop hr (by rw [hst];exact hLst),?_⟩
  have hpq:r.pending=q:=hpd.trans hLp
  have le:Env.Le e {e' with m:=(e.enter s.h w.heap.size).m}:=⟨fun i p hp=>S.keepr i p hp,fun n o ho=>S.keepz n o ho,by show e'.n0≤e.n0;rw [S.n0];exact Nat.le_refl _⟩
  have fin:=hQ {e' with m:=(e.enter s.h w.heap.size).m} _ t' (hl.mono le) T3
  have hpe:L.pend=r.pending:=hLp.trans hpq.symm
  rw [hpe,hLl] at fin
  rw [hpq]
  rw [hpq] at fin
  cases x<;>simp only [jumpOf,Option.some.injEq,reduceCtorEq] at hx<;>subst hx
  ·rw [←hpq];rw [hpq];exact fin
  ·exact wpIn_exit fin
  ·exact wpIn_ret fin
def isRf (id:Nat):Code→Bool
 | .block j (.rangeFunc _ _ _ _)=>j==id
 |_=>false
def rfG:Code→Operand
 | .rangeFunc g _ _ _=>g
 |_=>.const .nilFunc
def rfP:Code→Array Tmp
 | .rangeFunc _ ps _ _=>ps
 |_=>#[]
noncomputable def rfA:Code→Code
 | .rangeFunc _ _ a _=>a
 |_=>.skip
noncomputable def rfB:Code→Code
 | .rangeFunc _ _ _ b=>b
 |_=>.skip
noncomputable def rfL (c:Code) (t:List (Option SV)) (l:Nat):Lp:=⟨l,t,rfP (inner c),rfA (inner c),rfB (inner c),.ready,none⟩
theorem Tr.rangeB (id:Nat) {k:Nat} {c:Code} (hc:isRf id c=true) {f:FuncId} {fn:Func} {first capt:List SV} {s:St} {v:SV} {h1:Nat→List Blk} {hf:List Blk} (ob:Bool)
  (hfn:P.funcs[f]? =some fn) (hn:(fn.name != "runtime.NumGoroutine")=true) (hb:fn.body.isSome=true) (hg:ev s.t (rfG (inner c))=some (.fn (.func f) first capt))
  (hcall:∀l,FnTr P f (first++[.fn (.yield l) [] []]++capt) (s.h++[.g (some (rfL c s.t l))]) v (h1 l))
  (hL:∀l,∃L,lpAt (h1 l) s.h.length=some L∧L.l=l∧L.st≠.busy∧L.pend=none) (hh:∀l,(h1 l).set s.h.length .gap=hf):
  Tr P none k c s .normal ⟨s.t,hf,ob⟩:=by
 cases c<;>simp only [isRf,Bool.false_eq_true] at hc
 rename_i j b
 cases b<;>simp only [Bool.false_eq_true] at hc
 exact Tr.block_pass (Tr.range ob hfn hn hb hg hcall hL hh rfl) (by simp)
end
end Go.Sy
