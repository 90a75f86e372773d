/- This file holds the texts SgR, CpR, SgT, SgV, TsP, a section each. No conditions beyond those in the theorems. -/
import Derived.Test.YthlnlcijnoadcaaGreatDoorGSxA
import Derived.ChangeSlices
import Derived.WideShapes
import Derived.RowKit
import Derived.OpenShut
import Derived.Test.YthlnlcijnoadcaaGreatDoorGTrC
import Derived.Test.YthlnlcijnoadcaaGreatDoorGTsN
import Derived.LaidSub
import Derived.MakeChecks
noncomputable section
set_option linter.all false
section
namespace Go.Sy
open Go Go.ChangeShapes Go.WideShapes Go.RowKit
variable {P:Program}
theorem VR.tail {e:Env} {n k:Nat} {bs zs:List Int} {y:Value} (h:bs.length=n+k) (hy:VR e (.ro false .u8 zs) y):VR e (.agg [.ints .u8 n (bs.take n),.ints .u8 k (bs.drop n),.ro false .u8 zs]) (.agg ⟨aU .u8 bs++[y]⟩):=by
 refine ⟨aU .u8 bs++[y],⟨aU .u8 (bs.drop n)++[y],⟨[y],⟨y,[],hy,rfl,rfl⟩,?_⟩,?_⟩,rfl⟩
 ·rw [bN (by simp;omega)]
 ·rw [bN (by simp;omega), <-aaE, <-fL,abr]
end Go.Sy
end
section
namespace Go.Sy
open Go Go.ChangeShapes Go.WideShapes Go.RowKit
variable {P:Program} {H:Type} {enc:TypeId×Value->H} {W:World}
theorem lz {a:Addr} {v:Value} (h:W.cell? a=some v):∃c t fr,W.heap[a.block]? =some (.cells c t fr)/\a.spot=none/\c[a.off]? =some v:=by
 unfold World.cell? at h
 split at h
 ·rename_i c t fr hb
  split at h
  ·cases h
  ·rename_i hs
   refine ⟨c,t,fr,hb,?_,h⟩
   cases q:a.spot with
   |none=>rfl
   |some x=>rw [q] at hs;exact absurd rfl hs
 ·cases h
theorem EN {α:Type} [Inhabited α] (cell:α->List SV) (G:α->Prop) {r:Reach} {base base' m z:Nat} {t e:TypeId} {v:Value} {d:DataW H} {p:List MemPlace} {held:Bool} (ht:P.underlying t=some (.slice e)) (hc:P.cellsOf e=z) (UI:0<z)
  (hval:Value.okWide P W r base t v) (h:DataW.Trod enc P W base' (λ_=>true) held t v d p)
  (each:∀(n:Nat) (cs:List Value) (y:DataW H×List MemPlace),DataW.trod enc P W base' (λ_=>true) held n e cs=some y->∃a:α,PR ⟨λ_=>none,e8 W,m,[],λ_=>none⟩ (cell a) cs/\G a):
  ∃(len:Nat) (f:Nat->α),VR (gX (e8 W) m) (.aJ false z len (λi=>cell (f i))) v/\∀i,i<len->G (f i):=by
 obtain ⟨a0,gZ,fS,rfl⟩:=okWide_slice ht hval
 obtain ⟨fuel,hf⟩:=h
 rcases DataW.trod_slice ht hf with ⟨hcs,_⟩|⟨a,len,cap,elems,rest,n,_,hcs,_,_,hl,_,hlen,hel,hsp,_⟩
 ·simp [Value.cells] at hcs
  obtain ⟨rfl,rfl,rfl⟩:=hcs
  exact ⟨0,λ_=>default,.inl ⟨rfl,none,0,rfl,λ_=>rfl⟩,λ_ h=>by omega⟩
 ·simp [Value.cells] at hcs
  obtain ⟨rfl,rfl,rfl⟩:=hcs
  by_cases h0:gZ=0
  ·exact ⟨0,λ_=>default,.inl ⟨rfl,some a,fS,by rw [h0],λq=>by cases q⟩,λ_ h=>by omega⟩
  obtain ⟨_,hs,c,t',fr,hb⟩:=vb ht hval
  rw [hc] at hel hsp
  have A9:∀k,a.add k=⟨a.block,a.off+k,none⟩:=λk=>by
   obtain ⟨b,o,s⟩:=a
   simp only at hs
   subst hs
   unfold Addr.add
   split
   ·rename_i h;simp [h]
   ·rfl
  have Hu:∀(b o j:Nat),Addr.add ⟨b,o,none⟩ j=⟨b,o+j,none⟩:=λb o j=>by
   unfold Addr.add
   split
   ·rename_i h;simp [h]
   ·rfl
  have Hv:∀(k:Nat) (v:Value),W.cell? (a.add k)=some v->c[a.off+k]? =some v:=λk v hk=>by
   obtain ⟨c1,t1,f1,e1,_,e3⟩:=lz hk
   rw [A9] at e1 e3
   rw [hb] at e1
   cases e1
   exact e3
  have part:∀(i:Nat) (cs:List Value),W.cells? base' (a.add (i*z)) z=some cs->cs=(c.toList.drop (a.off+i*z)).take z/\a.off+i*z+z<=c.size:=λi cs hi=>by
   obtain ⟨_,q2,q3⟩:=World.cells?_some hi
   have hq:∀j,j<z->∃v,cs[j]? =some v/\c[a.off+i*z+j]? =some v:=λj hj=>by
    have hv:∃v,cs[j]? =some v:=⟨cs[j],by rw [aai]⟩
    obtain ⟨v,hv⟩:=hv
    have hk:W.cell? (a.add (i*z+j))=some v:=by
     have:=q3 j hj
     rw [hv] at this
     rw [<-this,A9,A9,Hu,Nat.add_assoc]
    exact ⟨v,hv,by rw [Nat.add_assoc];exact Hv _ v hk⟩
   have hsz:a.off+i*z+z<=c.size:=by
    obtain ⟨v,_,hv⟩:=hq (z-1) (by omega)
    have:=(aav.1 hv).1
    omega
   refine ⟨?_,hsz⟩
   apply abf
   intro j
   by_cases hj:j<z
   ·obtain ⟨v,h1,h2⟩:=hq j hj
    rw [h1,aa8,aaM hj,aaQ]
    simpa using h2.symm
   ·rw [aaJ (by omega),aaJ (by rw [aaU];omega)]
  have one:∀i,i<gZ->∃x:α,PR ⟨λ_=>none,e8 W,m,[],λ_=>none⟩ (cell x) ((c.toList.drop (a.off+i*z)).take z)/\G x:=λi hi=>by
   have h1:=hel i hi
   rw [aai (by omega)] at h1
   obtain ⟨cs,h2,h3⟩:=aaF.1 h1
   obtain ⟨x,hx,hg⟩:=each n cs _ h3
   rw [(part i cs h2).1] at hx
   exact ⟨x,hx,hg⟩
  have size:a.off+fS*z<=c.size:=by
   have last:∃cs,W.cells? base' (a.add ((fS-1)*z)) z=some cs:=by
    by_cases lF:fS=gZ
    ·have h1:=hel (gZ-1) (by omega)
     rw [aai (by omega)] at h1
     obtain ⟨cs,h2,_⟩:=aaF.1 h1
     exact ⟨cs,by rw [lF];exact h2⟩
    ·obtain ⟨r1,r2⟩:=hsp rfl
     have h1:=r2 (fS-gZ-1) (by omega)
     rw [aai (by omega)] at h1
     obtain ⟨cs,h2,_⟩:=aaF.1 h1
     exact ⟨cs,by rw [show fS-1=gZ+(fS-gZ-1) by omega];exact h2⟩
   obtain ⟨cs,h1⟩:=last
   have:=(part _ cs h1).2
   have e:fS*z=(fS-1)*z+z:=by
    rw [show fS=(fS-1)+1 by omega,abJ,Nat.one_mul,Nat.add_sub_cancel]
   omega
  refine ⟨gZ,λi=>if hi:i<gZ then (one i hi).choose else default,.inr ⟨a.block,a.off,fS,c,t',fr,?_,?_,(λq=>by cases q),(λi hi=>?_),hl,size⟩,λi hi=>?_⟩
  ·obtain ⟨b,o,s⟩:=a
   simp only at hs
   subst hs;rfl
  ·show e8 W a.block=_
   unfold e8
   rw [hb]
  ·simp only [dif_pos hi]
   exact (one i hi).choose_spec.1
  ·simp only [dif_pos hi]
   exact (one i hi).choose_spec.2
end Go.Sy
end
section
namespace Go.Sy
open Go Go.ChangeShapes Go.WideShapes Go.RowKit
variable {P:Program} {H:Type} {enc:TypeId×Value->H} {W:World}
theorem nh {base N:Nat} {t e:TypeId} {fuel:Nat} {held:Bool} {cs:List Value} {x:DataW H×List MemPlace} (ht:P.underlying t=some (.array N e)) (he:P.underlying e=some (.int .u8)) (hc:P.cellsOf e=1) (hn:P.cellsOf t=N)
  (h:DataW.trod enc P W base (λ_=>true) held fuel t cs=some x):∃zs,cs=aU .u8 zs/\zs.length=N/\∀z∈zs,0<=z/\z<256:=by
 obtain ⟨xs,m,_,_,hl,gl,hx⟩:=DataW.trod_array ht h
 rw [hn] at hl
 rw [hc] at hx
 have each:∀v∈cs,∃z:Int,v=Value.int .u8 z/\0<=z/\z<256:=λv hv=>by
  obtain ⟨i,hi,hvi⟩:=List.getElem_of_mem hv
  have q:=hx i (by omega)
  rw [aai (by omega),ad3] at q
  obtain ⟨z,e1,_,hw⟩:=DataW.trod_int he q
  have g:=adX (λl:List Value=>l[0]?) e1
  simp only [aa2,aa8,aaQ,Nat.add_zero,Nat.zero_lt_one,if_true] at g
  rw [aai hi,hvi] at g
  have h2:0<=z/\z<=255:=by simpa [Lit.wf,IntKind.has,IntKind.min,IntKind.max,IntKind.signed,IntKind.bits] using hw
  exact ⟨z,by simpa using g,by omega⟩
 have hex:∀l:List Value,(∀v∈l,∃z:Int,v=Value.int .u8 z/\0<=z/\z<256)->∃zs:List Int,l=aU .u8 zs/\∀z∈zs,0<=z/\z<256:=by
  intro l
  induction l with
  |nil=>intro _;exact ⟨[],rfl,by simp⟩
  |cons a l ih=>
   intro hl
   obtain ⟨z,rfl,hz⟩:=hl a (by simp)
   obtain ⟨zs,rfl,hzs⟩:=ih λv hv=>hl v (by simp [hv])
   exact ⟨z::zs,rfl,λy hy=>by rcases ad2.1 hy with rfl|hy;exact hz;exact hzs y hy⟩
 obtain ⟨zs,rfl,hz⟩:=hex cs each
 exact ⟨zs,rfl,by simpa [aU] using hl,hz⟩
end Go.Sy
end
section
namespace Go.Sy
open Go Go.ChangeShapes Go.WideShapes Go.RowKit
variable {P:Program} {H:Type} {enc:TypeId×Value->H} {W:World}
theorem BD {k:IntKind} {base m:Nat} {t e:TypeId} {fuel:Nat} {held:Bool} {cs:List Value} {x:DataW H×List MemPlace} (ht:P.underlying t=some (.slice e)) (he:P.underlying e=some (.int k)) (hc:P.cellsOf e=1)
  (h:DataW.trod enc P W base (λ_=>true) held fuel t cs=some x):∃zs v,cs=[v]/\VR (gX (e8 W) m) (.ro false k zs) v/\∀z∈zs,(Lit.int k z).wf=true:=by
 rcases ChangeShapes.open_ints ht he hc h with ⟨hcs,_⟩|⟨a,len,cap,zs,hcs,_,hl,hm,hz,_,hcell,hwz⟩
 ·exact ⟨[],_,hcs,.inl ⟨rfl,none,0,rfl,λ_=>rfl⟩,λ_ h=>by cases h⟩
 ·have oQ:zs.length=cap:=by simpa using hz
  refine ⟨zs.take len,_,hcs,?_,λn hn=>hwz n (List.mem_of_mem_take hn)⟩
  by_cases h0:cap=0
  ·exact .inl ⟨by rw [List.take_eq_nil_iff];left;omega,some a,cap,by rw [show len=0 by omega],λq=>by cases q⟩
  ·obtain ⟨c,t',fr,hb,hs,_⟩:=lz (hcell 0 (by omega))
   exact lV.F9 hb hs oQ hl hcell
theorem aeM (l:List Value) (h:l.length=99):l=(l.drop 0).take 1++((l.drop 1).take 1++((l.drop 2).take 32++((l.drop 34).take 32++((l.drop 66).take 32++(l.drop 98).take 1)))):=by
 rw [aao (l:=l.drop 98) (by rw [aaN];omega),show l.drop 98=(l.drop 66).drop 32 by rw [aa4],abr,show l.drop 66=(l.drop 34).drop 32 by rw [aa4],abr,
  show l.drop 34=(l.drop 2).drop 32 by rw [aa4],abr,show l.drop 2=(l.drop 1).drop 1 by rw [aa4],abr,adN,abr]
structure Q0 (P:Program) (e t0 t1 t2 t3 t4 e1 e2:TypeId) (f0 f1 f2 f3 f4 f5:Field):Prop where
 s:P.underlying e=some (.struct #[f0,f1,f2,f3,f4,f5])
 c:P.cellsOf e=99
 ft:f0.type=t0/\f1.type=t1/\f2.type=t2/\f3.type=t2/\f4.type=t4/\f5.type=t3
 o:f0.offset=0/\f1.offset=1/\f2.offset=2/\f3.offset=34/\f4.offset=66/\f5.offset=98
 u:P.underlying t0=some .bool/\P.underlying t1=some (.int .i64)/\P.underlying t2=some (.array 32 e1)/\P.underlying t3=some (.slice e2)/\P.underlying e1=some (.int .u8)/\P.underlying e2=some (.int .i64)/\P.underlying t4=some (.array 32 e1)
 k:P.cellsOf t0=1/\P.cellsOf t1=1/\P.cellsOf t2=32/\P.cellsOf t3=1/\P.cellsOf e1=1/\P.cellsOf e2=1/\P.cellsOf t4=32
theorem vR {base m:Nat} {e t0 t1 t2 t3 t4 e1 e2:TypeId} {f0 f1 f2 f3 f4 f5:Field} {fuel:Nat} {held:Bool} {cs:List Value} {x:DataW H×List MemPlace} (T:Q0 P e t0 t1 t2 t3 t4 e1 e2 f0 f1 f2 f3 f4 f5)
  (h:DataW.trod enc P W base (λ_=>true) held fuel e cs=some x):∃n:aj,PR ⟨λ_=>none,e8 W,m,[],λ_=>none⟩ n.cells cs/\n.OK:=by
 obtain ⟨he,hc,⟨rfl,rfl,r2,r3,r4,rfl⟩,⟨o0,o1,o2,o3,o4,o5⟩,⟨u0,u1,u2,u3,u4,u5,u6⟩,⟨k0,k1,k2,k3,k4,k5,k6⟩⟩:=T
 obtain ⟨xs,n',rfl,_,hl,gl,hfl⟩:=DataW.trod_struct he h
 rw [hc] at hl
 have q0:=hfl 0 f0 rfl
 have q1:=hfl 1 f1 rfl
 have q2:=hfl 2 f2 rfl
 have q3:=hfl 3 f3 rfl
 have q4:=hfl 4 f4 rfl
 have q5:=hfl 5 f5 rfl
 rw [aai (by rw [gl];simp)] at q0 q1 q2 q3 q4 q5
 rw [o0,k0] at q0
 rw [o1,k1] at q1
 rw [r2,o2,k2] at q2
 rw [r3,o3,k2] at q3
 rw [r4,o4,k6] at q4
 rw [o5,k3] at q5
 obtain ⟨b,e0,_⟩:=DataW.trod_bool u0 q0
 obtain ⟨z,e1',_,w1⟩:=DataW.trod_int u1 q1
 obtain ⟨ks,e2',l2,w2⟩:=nh u2 u4 k4 k2 q2
 obtain ⟨ss,e3',l3,w3⟩:=nh u2 u4 k4 k2 q3
 obtain ⟨ps,e4',l4,w4⟩:=nh u6 u4 k4 k6 q4
 obtain ⟨zs,v1,e5',g1,g2⟩:=BD (m:=m) u3 u5 k5 q5
 have hcs:=aeM cs hl
 rw [e0,e1',e2',e3',e4',e5'] at hcs
 subst hcs
 refine ⟨⟨b,z,ks,ss,ps,zs⟩,?_,w1,⟨l2,w2⟩,⟨l3,w3⟩,⟨l4,w4⟩,g2⟩
 refine ⟨_,_,rfl,⟨_,_,rfl,⟨aU .u8 ss++(aU .u8 ps++[v1]),⟨aU .u8 ps++[v1],⟨[v1],⟨_,_,g1,rfl,rfl⟩,?_⟩,?_⟩,?_⟩,rfl⟩,rfl⟩
 ·rw [bN l4]
 ·rw [bN l3]
 ·rw [bN l2];rfl
theorem Ef {r:Reach} {base base' m:Nat} {t e t0 t1 t2 t3 t4 e1 e2:TypeId} {f0 f1 f2 f3 f4 f5:Field} {v:Value} {d:DataW H} {p:List MemPlace} {held:Bool} (ht:P.underlying t=some (.slice e)) (T:Q0 P e t0 t1 t2 t3 t4 e1 e2 f0 f1 f2 f3 f4 f5)
  (hval:Value.okWide P W r base t v) (h:DataW.Trod enc P W base' (λ_=>true) held t v d p):
  ∃(N:Nat) (f:Nat->aj),VR (gX (e8 W) m) (.aJ false 99 N (λi=>(f i).cells)) v/\∀i,i<N->(f i).OK:=
 EN (α:=aj) (m:=m) aj.cells aj.OK ht T.c (by decide) hval h λ_ _ _ hy=>vR T hy
end Go.Sy
end
section
namespace Go.Sy
open Go Go.ChangeShapes Go.WideShapes Go.RowKit
theorem Ee {P:Program} {H:Type} {enc:TypeId×Value->H} {W:World} {base N:Nat} {t e:TypeId} {fuel:Nat} {held:Bool} {cs:List Value} {zs:List Int} {p:List MemPlace} (ht:P.underlying t=some (.array N e)) (he:P.underlying e=some (.int .u8)) (hc:P.cellsOf e=1) (hn:P.cellsOf t=N) (hz:zs.length=N)
  (h:DataW.trod enc P W base (λ_=>true) held fuel t cs=some (.agg (zs.map λz=>.lit (.int .u8 z)),p)):cs=aU .u8 zs:=by
 obtain ⟨xs,m,_,h0,hl,gl,hx⟩:=DataW.trod_array ht h
 rw [hn] at hl
 rw [hc] at hx
 simp only [aae,DataW.agg.injEq] at h0
 apply List.ext_getElem
 ·rw [hl];simp [aU,hz]
 ·intro i h1 h2
  have q:=hx i (by omega)
  rw [aai (by omega),ad3] at q
  obtain ⟨z,e1,e2,hw⟩:=DataW.trod_int he q
  have g:=adX (λl:List Value=>l[0]?) e1
  simp only [aa2,aa8,aaQ,Nat.add_zero,Nat.zero_lt_one,if_true] at g
  rw [aai h1] at g
  have k:=adX (λl=>l[i]?) h0.1
  simp only [aaO] at k
  rw [aai (show i<zs.length by omega),aai (show i<xs.length by omega)] at k
  simp only [aaH,No,e2] at k
  simp only [DataW.lit.injEq,Lit.int.injEq,true_and] at k
  rw [ael g]
  simp [aU,k]
end Go.Sy
end
