/- This file holds the texts SgR, CpR, SgT, a section each. No conditions beyond those in the theorems. -/
import Derived.Test.YtibfpjeeanppjaaGreatYSxB
import Derived.ChangeSlices
import Derived.WideShapes
import Derived.RowKit
import Derived.OpenShut
set_option linter.all false
section
namespace Go.Sy
open Go Go.ChangeShapes Go.WideShapes Go.RowKit
variable {P:Program}
theorem VR.tail {e:Env} {n k:Nat} {bs zs:List Int} {y:Value} (h:bs.length=n+k) (hy:VR e (.ro false .u8 zs) y):VR e (.agg [.ints .u8 n (bs.take n),.ints .u8 k (bs.drop n),.ro false .u8 zs]) (.agg ⟨aP .u8 bs++[y]⟩):=by
 refine ⟨aP .u8 bs++[y],⟨aP .u8 (bs.drop n)++[y],⟨[y],⟨y,[],hy,rfl,rfl⟩,?_⟩,?_⟩,rfl⟩
 ·rw [aG (by simp;omega)]
 ·rw [aG (by simp;omega), ←List.append_assoc, ←gq,List.take_append_drop]
end Go.Sy
end
section
namespace Go.Sy
open Go Go.ChangeShapes Go.WideShapes Go.RowKit
variable {P:Program} {H:Type} {enc:TypeId×Value→H} {W:World}
theorem xJ {a:Addr} {v:Value} (h:W.cell? a=some v):∃c t fr,W.heap[a.block]? =some (.cells c t fr)∧a.spot=none∧c[a.off]? =some v:=by
 unfold World.cell? at h
 split at h
 ·rename_i c t fr hb
  split at h
  ·cases h
  ·rename_i hs
   refine ⟨c,t,fr,hb,?_,h⟩
   cases q:a.spot with
   |none=>rfl
   |some x=>rw [q] at hs;exact absurd rfl hs
 ·cases h
theorem um {base m:Nat} {t e:TypeId} {fuel:Nat} {held:Bool} {cs:List Value} {x:DataW H×List MemPlace} (ht:P.underlying t=some (.slice e)) (he:P.underlying e=some (.int .u8)) (hc:P.cellsOf e=1)
  (h:DataW.trod enc P W base (fun _=>true) held fuel t cs=some x):∃zs v,cs=[v]∧VR (jr (jq W) m) (.ro false .u8 zs) v∧∀z∈zs,0≤z∧z<256:=by
 rcases ChangeShapes.open_ints ht he hc h with ⟨hcs,_⟩|⟨a,len,cap,zs,hcs,_,hl,hm,hz,_,hcell,hwz⟩
 ·exact ⟨[],_,hcs,.inl ⟨rfl,none,0,rfl,fun _=>rfl⟩,fun _ h=>by cases h⟩
 ·have ku:zs.length=cap:=by simpa using hz
  refine ⟨zs.take len,_,hcs,?_,fun n hn=>?_⟩
  ·by_cases h0:cap=0
   ·exact .inl ⟨by rw [List.take_eq_nil_iff];left;omega,some a,cap,by rw [show len=0 by omega],fun q=>by cases q⟩
   ·obtain ⟨c,t',fr,hb,hs,_⟩:=xJ (hcell 0 (by omega))
    exact pz.MY hb hs ku hl hcell
  ·have h1:=hwz n (List.mem_of_mem_take hn)
   have h2:0≤n∧n≤255:=by simpa [Lit.wf,IntKind.has,IntKind.min,IntKind.max,IntKind.signed,IntKind.bits] using h1
   omega
theorem JD {α:Type} [Inhabited α] (cell:α→List SV) (G:α→Prop) {r:Reach} {base base' m z:Nat} {t e:TypeId} {v:Value} {d:DataW H} {p:List MemPlace} {held:Bool} (ht:P.underlying t=some (.slice e)) (hc:P.cellsOf e=z) (hz0:0<z)
  (hval:Value.okWide P W r base t v) (h:DataW.Trod enc P W base' (fun _=>true) held t v d p)
  (each:∀(n:Nat) (cs:List Value) (y:DataW H×List MemPlace),DataW.trod enc P W base' (fun _=>true) held n e cs=some y→∃a:α,PR ⟨fun _=>none,jq W,m,[],fun _=>none⟩ (cell a) cs∧G a):
  ∃(len:Nat) (f:Nat→α),VR (jr (jq W) m) (.oJ false z len (fun i=>cell (f i))) v∧∀i,i<len→G (f i):=by
 obtain ⟨a0,A5,uI,rfl⟩:=okWide_slice ht hval
 obtain ⟨fuel,hf⟩:=h
 rcases DataW.trod_slice ht hf with ⟨hcs,_⟩|⟨a,len,cap,elems,rest,n,_,hcs,_,_,hl,_,hlen,hel,hsp,_⟩
 ·simp [Value.cells] at hcs
  obtain ⟨rfl,rfl,rfl⟩:=hcs
  exact ⟨0,fun _=>default,.inl ⟨rfl,none,0,rfl,fun _=>rfl⟩,fun _ h=>by omega⟩
 ·simp [Value.cells] at hcs
  obtain ⟨rfl,rfl,rfl⟩:=hcs
  by_cases h0:A5=0
  ·exact ⟨0,fun _=>default,.inl ⟨rfl,some a,uI,by rw [h0],fun q=>by cases q⟩,fun _ h=>by omega⟩
  obtain ⟨_,hs,c,t',fr,hb⟩:=x8 ht hval
  rw [hc] at hel hsp
  have aa0:∀k,a.add k=⟨a.block,a.off+k,none⟩:=fun k=>by
   obtain ⟨b,o,s⟩:=a
   simp only at hs
   subst hs
   unfold Addr.add
   split
   ·rename_i h;simp [h]
   ·rfl
  have agr:∀(b o j:Nat),Addr.add ⟨b,o,none⟩ j=⟨b,o+j,none⟩:=fun b o j=>by
   unfold Addr.add
   split
   ·rename_i h;simp [h]
   ·rfl
  have ags:∀(k:Nat) (v:Value),W.cell? (a.add k)=some v→c[a.off+k]? =some v:=fun k v hk=>by
   obtain ⟨c1,t1,f1,e1,_,e3⟩:=xJ hk
   rw [aa0] at e1 e3
   rw [hb] at e1
   cases e1
   exact e3
  have part:∀(i:Nat) (cs:List Value),W.cells? base' (a.add (i*z)) z=some cs→cs=(c.toList.drop (a.off+i*z)).take z∧a.off+i*z+z≤c.size:=fun i cs hi=>by
   obtain ⟨_,q2,q3⟩:=World.cells?_some hi
   have hq:∀j,j<z→∃v,cs[j]? =some v∧c[a.off+i*z+j]? =some v:=fun j hj=>by
    have hv:∃v,cs[j]? =some v:=⟨cs[j],by rw [List.getElem?_eq_getElem]⟩
    obtain ⟨v,hv⟩:=hv
    have hk:W.cell? (a.add (i*z+j))=some v:=by
     have:=q3 j hj
     rw [hv] at this
     rw [←this,aa0,aa0,agr,Nat.add_assoc]
    exact ⟨v,hv,by rw [Nat.add_assoc];exact ags _ v hk⟩
   have hsz:a.off+i*z+z≤c.size:=by
    obtain ⟨v,_,hv⟩:=hq (z-1) (by omega)
    have:=(Array.getElem?_eq_some_iff.1 hv).1
    omega
   refine ⟨?_,hsz⟩
   apply List.ext_getElem?
   intro j
   by_cases hj:j<z
   ·obtain ⟨v,h1,h2⟩:=hq j hj
    rw [h1,List.getElem?_take,if_pos hj,List.getElem?_drop]
    simpa using h2.symm
   ·rw [List.getElem?_eq_none (by omega),List.getElem?_eq_none (by rw [List.length_take];omega)]
  have one:∀i,i<A5→∃x:α,PR ⟨fun _=>none,jq W,m,[],fun _=>none⟩ (cell x) ((c.toList.drop (a.off+i*z)).take z)∧G x:=fun i hi=>by
   have h1:=hel i hi
   rw [List.getElem?_eq_getElem (by omega)] at h1
   obtain ⟨cs,h2,h3⟩:=Option.bind_eq_some_iff.1 h1
   obtain ⟨x,hx,hg⟩:=each n cs _ h3
   rw [(part i cs h2).1] at hx
   exact ⟨x,hx,hg⟩
  have size:a.off+uI*z≤c.size:=by
   have last:∃cs,W.cells? base' (a.add ((uI-1)*z)) z=some cs:=by
    by_cases wj:uI=A5
    ·have h1:=hel (A5-1) (by omega)
     rw [List.getElem?_eq_getElem (by omega)] at h1
     obtain ⟨cs,h2,_⟩:=Option.bind_eq_some_iff.1 h1
     exact ⟨cs,by rw [wj];exact h2⟩
    ·obtain ⟨r1,r2⟩:=hsp rfl
     have h1:=r2 (uI-A5-1) (by omega)
     rw [List.getElem?_eq_getElem (by omega)] at h1
     obtain ⟨cs,h2,_⟩:=Option.bind_eq_some_iff.1 h1
     exact ⟨cs,by rw [show uI-1=A5+(uI-A5-1) by omega];exact h2⟩
   obtain ⟨cs,h1⟩:=last
   have:=(part _ cs h1).2
   have e:uI*z=(uI-1)*z+z:=by
    rw [show uI=(uI-1)+1 by omega,Nat.add_mul,Nat.one_mul,Nat.add_sub_cancel]
   omega
  refine ⟨A5,fun i=>if hi:i<A5 then (one i hi).choose else default,.inr ⟨a.block,a.off,uI,c,t',fr,?_,?_,(fun q=>by cases q),(fun i hi=>?_),hl,size⟩,fun i hi=>?_⟩
  ·obtain ⟨b,o,s⟩:=a
   simp only at hs
   subst hs;rfl
  ·show jq W a.block=_
   unfold jq
   rw [hb]
  ·simp only [dif_pos hi]
   exact (one i hi).choose_spec.1
  ·simp only [dif_pos hi]
   exact (one i hi).choose_spec.2
end Go.Sy
end
section
namespace Go.Sy
open Go Go.ChangeShapes Go.WideShapes Go.RowKit
variable {P:Program} {H:Type} {enc:TypeId×Value→H} {W:World}
theorem tC {base N:Nat} {t e:TypeId} {fuel:Nat} {held:Bool} {cs:List Value} {x:DataW H×List MemPlace} (ht:P.underlying t=some (.array N e)) (he:P.underlying e=some (.int .u8)) (hc:P.cellsOf e=1) (hn:P.cellsOf t=N)
  (h:DataW.trod enc P W base (fun _=>true) held fuel t cs=some x):∃zs,cs=aP .u8 zs∧zs.length=N∧∀z∈zs,0≤z∧z<256:=by
 obtain ⟨xs,m,_,_,hl,uq,hx⟩:=DataW.trod_array ht h
 rw [hn] at hl
 rw [hc] at hx
 have each:∀v∈cs,∃z:Int,v=Value.int .u8 z∧0≤z∧z<256:=fun v hv=>by
  obtain ⟨i,hi,hvi⟩:=List.getElem_of_mem hv
  have q:=hx i (by omega)
  rw [List.getElem?_eq_getElem (by omega),Nat.mul_one] at q
  obtain ⟨z,e1,_,hw⟩:=DataW.trod_int he q
  have g:=congrArg (fun l:List Value=>l[0]?) e1
  simp only [List.getElem?_cons_zero,List.getElem?_take,List.getElem?_drop,Nat.add_zero,Nat.zero_lt_one,if_true] at g
  rw [List.getElem?_eq_getElem hi,hvi] at g
  have h2:0≤z∧z≤255:=by simpa [Lit.wf,IntKind.has,IntKind.min,IntKind.max,IntKind.signed,IntKind.bits] using hw
  exact ⟨z,by simpa using g,by omega⟩
 have hex:∀l:List Value,(∀v∈l,∃z:Int,v=Value.int .u8 z∧0≤z∧z<256)→∃zs:List Int,l=aP .u8 zs∧∀z∈zs,0≤z∧z<256:=by
  intro l
  induction l with
  |nil=>intro _;exact ⟨[],rfl,by simp⟩
  |cons a l ih=>
   intro hl
   obtain ⟨z,rfl,hz⟩:=hl a (by simp)
   obtain ⟨zs,rfl,hzs⟩:=ih fun v hv=>hl v (by simp [hv])
   exact ⟨z::zs,rfl,fun y hy=>by rcases List.mem_cons.1 hy with rfl|hy;exact hz;exact hzs y hy⟩
 obtain ⟨zs,rfl,hz⟩:=hex cs each
 exact ⟨zs,rfl,by simpa [aP] using hl,hz⟩
theorem ak8 (l:List Value) (h:l.length=34):l=(l.drop 0).take 1++((l.drop 1).take 32++(l.drop 33).take 1):=by
 rw [List.take_of_length_le (l:=l.drop 33) (by rw [List.length_drop];omega),show l.drop 33=(l.drop 1).drop 32 by rw [List.drop_drop],List.take_append_drop,List.drop_zero,List.take_append_drop]
theorem ak9 (l:List Value) (h:l.length=66):l=(l.drop 0).take 1++((l.drop 1).take 32++((l.drop 33).take 32++(l.drop 65).take 1)):=by
 rw [List.take_of_length_le (l:=l.drop 65) (by rw [List.length_drop];omega),show l.drop 65=(l.drop 33).drop 32 by rw [List.drop_drop],List.take_append_drop,show l.drop 33=(l.drop 1).drop 32 by rw [List.drop_drop],List.take_append_drop,List.drop_zero,List.take_append_drop]
theorem E9 {r:Reach} {base base' m:Nat} {t e t0 t1 t2 e1:TypeId} {f0 f1 f2:Field} {v:Value} {d:DataW H} {p:List MemPlace} {held:Bool} (ht:P.underlying t=some (.slice e)) (he:P.underlying e=some (.struct #[f0,f1,f2])) (hc:P.cellsOf e=34)
  (h0:f0.type=t0∧f0.offset=0∧P.underlying t0=some (.int .i64)∧P.cellsOf t0=1) (h1:f1.type=t1∧f1.offset=1∧P.underlying t1=some (.array 32 e1)∧P.cellsOf t1=32∧P.underlying e1=some (.int .u8)∧P.cellsOf e1=1)
  (h2:f2.type=t2∧f2.offset=33∧P.underlying t2=some (.slice e1)∧P.cellsOf t2=1)
  (hval:Value.okWide P W r base t v) (h:DataW.Trod enc P W base' (fun _=>true) held t v d p):
  ∃(N:Nat) (k:Nat→Int) (n x:Nat→List Int),VR (jr (jq W) m) (.oJ false 34 N (fun i=>[.int .i64 (k i),.ints .u8 32 (n i),.ro false .u8 (x i)])) v∧
   ∀i,i<N→((n i).length=32∧∀z∈n i,0≤z∧z<256)∧∀z∈x i,0≤z∧z<256:=by
 obtain ⟨rfl,o0,u0,c0⟩:=h0
 obtain ⟨rfl,o1,u1,c1,u1',c1'⟩:=h1
 obtain ⟨rfl,o2,u2,c2⟩:=h2
 obtain ⟨N,f,g1,g2⟩:=JD (α:=Int×List Int×List Int) (m:=m) (fun a=>[.int .i64 a.1,.ints .u8 32 a.2.1,.ro false .u8 a.2.2]) (fun a=>(a.2.1.length=32∧∀z∈a.2.1,0≤z∧z<256)∧∀z∈a.2.2,0≤z∧z<256) ht hc (by decide) hval h fun n cs y hy=>by
  obtain ⟨xs,n',rfl,_,hl,uq,hfl⟩:=DataW.trod_struct he hy
  rw [hc] at hl
  have q0:=hfl 0 f0 rfl
  have q1:=hfl 1 f1 rfl
  have q2:=hfl 2 f2 rfl
  rw [List.getElem?_eq_getElem (by rw [uq];simp)] at q0 q1 q2
  rw [o0,c0] at q0
  rw [o1,c1] at q1
  rw [o2,c2] at q2
  obtain ⟨z0,e0,_,_⟩:=DataW.trod_int u0 q0
  obtain ⟨ks,e1',l1,w1⟩:=tC u1 u1' c1' c1 q1
  obtain ⟨zs,v1,e2,r1,r2⟩:=um (m:=m) u2 u1' c1' q2
  have hcs:=ak8 cs hl
  rw [e0,e1',e2] at hcs
  subst hcs
  exact ⟨(z0,ks,zs),⟨_,_,rfl,⟨[v1],⟨_,_,r1,rfl,rfl⟩,by show aP .u8 ks++[v1]=aP .u8 (aH 32 ks)++[v1];rw [aG l1]⟩,rfl⟩,⟨l1,w1⟩,r2⟩
 exact ⟨N,fun i=>(f i).1,fun i=>(f i).2.1,fun i=>(f i).2.2,g1,g2⟩
theorem E8 {r:Reach} {base base' m:Nat} {t t0 t1 t2 e1:TypeId} {f0 f1 f2 f3:Field} {v:Value} {d:DataW H} {p:List MemPlace} {held:Bool} (he:P.underlying t=some (.struct #[f0,f1,f2,f3])) (hc:P.cellsOf t=66)
  (h0:f0.type=t0∧f0.offset=0∧P.underlying t0=some .bool∧P.cellsOf t0=1) (h1:f1.type=t1∧f1.offset=1∧P.underlying t1=some (.array 32 e1)∧P.cellsOf t1=32∧P.underlying e1=some (.int .u8)∧P.cellsOf e1=1)
  (h2:f2.type=t1∧f2.offset=33) (h3:f3.type=t2∧f3.offset=65∧P.underlying t2=some (.slice e1)∧P.cellsOf t2=1)
  (hval:Value.okWide P W r base t v) (h:DataW.Trod enc P W base' (fun _=>true) held t v d p):
  ∃(b:Bool) (k n x:List Int),VR (jr (jq W) m) (.agg [.bool b,.ints .u8 32 k,.ints .u8 32 n,.ro false .u8 x]) v∧
   (k.length=32∧∀z∈k,0≤z∧z<256)∧(n.length=32∧∀z∈n,0≤z∧z<256)∧∀z∈x,0≤z∧z<256:=by
 have h':∃cs,v= .agg cs∧cs.size=P.cellsOf t∧Row.okWide P W r base t cs:=by
  unfold Value.okWide at hval
  rw [he] at hval
  exact hval
 obtain ⟨cs,rfl,hsz,_⟩:=h'
 obtain ⟨rfl,o0,u0,c0⟩:=h0
 obtain ⟨rfl,o1,u1,c1,u1',c1'⟩:=h1
 obtain ⟨h2t,o2⟩:=h2
 obtain ⟨rfl,o3,u3,c3⟩:=h3
 obtain ⟨fuel,hf⟩:=h
 obtain ⟨xs,n',rfl,_,hl,uq,hfl⟩:=DataW.trod_struct he hf
 rw [hc] at hl
 have q0:=hfl 0 f0 rfl
 have q1:=hfl 1 f1 rfl
 have q2:=hfl 2 f2 rfl
 have q3:=hfl 3 f3 rfl
 rw [List.getElem?_eq_getElem (by rw [uq];simp)] at q0 q1 q2 q3
 rw [o0,c0] at q0
 rw [o1,c1] at q1
 rw [h2t,o2,c1] at q2
 rw [o3,c3] at q3
 obtain ⟨b,e0,_⟩:=DataW.trod_bool u0 q0
 obtain ⟨ks,e1',l1,w1⟩:=tC u1 u1' c1' c1 q1
 obtain ⟨ns,e2',l2,w2⟩:=tC u1 u1' c1' c1 q2
 obtain ⟨zs,v1,e3,r1,r2⟩:=um (m:=m) u3 u1' c1' q3
 have hcs:=ak9 _ hl
 rw [e0,e1',e2',e3] at hcs
 refine ⟨b,ks,ns,zs,?_,⟨l1,w1⟩,⟨l2,w2⟩,r2⟩
 have alb:cs.toList=[Value.bool b]++(aP .u8 ks++(aP .u8 ns++[v1])):=hcs
 refine ⟨cs.toList,?_,by simp⟩
 rw [alb]
 refine ⟨_,_,rfl,⟨aP .u8 ns++[v1],⟨[v1],⟨_,_,r1,rfl,rfl⟩,?_⟩,?_⟩,rfl⟩
 ·rw [aG l2]
 ·rw [aG l1];rfl
end Go.Sy
end
