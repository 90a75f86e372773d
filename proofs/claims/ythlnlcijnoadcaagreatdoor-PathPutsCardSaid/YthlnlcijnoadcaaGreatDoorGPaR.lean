/- This file reads paths that come in with a row (the third of the law PathPuts). Conditions: what came in reads as data. -/
import Derived.Test.YthlnlcijnoadcaaGreatDoorGTsP
import Derived.Test.YthlnlcijnoadcaaGreatDoorGPaE
noncomputable section
set_option linter.all false
namespace Go.Sy
open Go Go.ChangeShapes Go.WideShapes Go.RowKit
variable {P:Program} {H:Type} {enc:TypeId×Value->H} {W:World}
theorem uf {base z gZ:Nat} {a:Addr} {n:Nat} {e:TypeId} {held:Bool} {elems:List (DataW H×List MemPlace)} (hz:0<z) (h0:0<gZ)
  (hel:∀i,i<gZ->((W.cells? base (a.add (i*z)) z).bind λcs=>DataW.trod enc P W base (λ_=>true) held n e cs)=elems[i]?) (hlen:elems.length=gZ):∃c t fr,W.heap[a.block]? =some (.cells c t fr)/\a.spot=none/\a.off<c.size:=by
 have h1:=hel 0 h0
 rw [aai (by omega),Nat.zero_mul] at h1
 obtain ⟨cs,h2,_⟩:=aaF.1 h1
 obtain ⟨q1,q2,q3⟩:=World.cells?_some h2
 have ha:(a.add 0)=a:=by unfold Addr.add;simp
 have h3:=q3 0 hz
 rw [ha] at h3
 have N9:a.add 0=a:=ha
 rw [N9] at h3
 have hv:∃v,cs[0]? =some v:=⟨cs[0],by rw [aai]⟩
 obtain ⟨v,hv⟩:=hv
 rw [hv] at h3
 obtain ⟨c,t,fr,e1,e2,e3⟩:=lz (a:=a) (v:=v) (by rw [<-h3])
 exact ⟨c,t,fr,e1,e2,(aav.1 e3).1⟩
theorem A8 {α:Type} [Inhabited α] (cell:α->List SV) (G:α->Prop) {base' m z:Nat} {t e:TypeId} {fuel:Nat} {held:Bool} {cs0:List Value} {x0:DataW H×List MemPlace} (ht:P.underlying t=some (.slice e)) (hc:P.cellsOf e=z) (UI:0<z)
  (hf:DataW.trod enc P W base' (λ_=>true) held fuel t cs0=some x0)
  (each:∀(n:Nat) (cs:List Value) (y:DataW H×List MemPlace),DataW.trod enc P W base' (λ_=>true) held n e cs=some y->∃a:α,PR ⟨λ_=>none,e8 W,m,[],λ_=>none⟩ (cell a) cs/\G a):
  ∃(len:Nat) (f:Nat->α) (v:Value),cs0=[v]/\VR (gX (e8 W) m) (.aJ false z len (λi=>cell (f i))) v/\∀i,i<len->G (f i):=by
 rcases DataW.trod_slice ht hf with ⟨hcs,_⟩|⟨a,gZ,fS,elems,rest,n,_,hcs,_,_,hl,_,hlen,hel,hsp,_⟩
 ·exact ⟨0,λ_=>default,_,hcs,.inl ⟨rfl,none,0,rfl,λ_=>rfl⟩,λ_ h=>by omega⟩
 ·by_cases h0:gZ=0
  ·exact ⟨0,λ_=>default,_,hcs,.inl ⟨rfl,some a,fS,by rw [h0],λq=>by cases q⟩,λ_ h=>by omega⟩
  rw [hc] at hel hsp
  obtain ⟨c,t',fr,hb,hs,_⟩:=uf UI (by omega) hel hlen
  have A9:∀k,a.add k=⟨a.block,a.off+k,none⟩:=λk=>by
   obtain ⟨b,o,s⟩:=a
   simp only at hs
   subst hs
   unfold Addr.add
   split
   ·rename_i h;simp [h]
   ·rfl
  have Hu:∀(b o j:Nat),Addr.add ⟨b,o,none⟩ j=⟨b,o+j,none⟩:=λb o j=>by
   unfold Addr.add
   split
   ·rename_i h;simp [h]
   ·rfl
  have Hv:∀(k:Nat) (v:Value),W.cell? (a.add k)=some v->c[a.off+k]? =some v:=λk v hk=>by
   obtain ⟨c1,t1,f1,e1,_,e3⟩:=lz hk
   rw [A9] at e1 e3
   rw [hb] at e1
   cases e1
   exact e3
  have part:∀(i:Nat) (cs:List Value),W.cells? base' (a.add (i*z)) z=some cs->cs=(c.toList.drop (a.off+i*z)).take z/\a.off+i*z+z<=c.size:=λi cs hi=>by
   obtain ⟨_,q2,q3⟩:=World.cells?_some hi
   have hq:∀j,j<z->∃v,cs[j]? =some v/\c[a.off+i*z+j]? =some v:=λj hj=>by
    have hv:∃v,cs[j]? =some v:=⟨cs[j],by rw [aai]⟩
    obtain ⟨v,hv⟩:=hv
    have hk:W.cell? (a.add (i*z+j))=some v:=by
     have:=q3 j hj
     rw [hv] at this
     rw [<-this,A9,A9,Hu,Nat.add_assoc]
    exact ⟨v,hv,by rw [Nat.add_assoc];exact Hv _ v hk⟩
   have hsz:a.off+i*z+z<=c.size:=by
    obtain ⟨v,_,hv⟩:=hq (z-1) (by omega)
    have:=(aav.1 hv).1
    omega
   refine ⟨?_,hsz⟩
   apply abf
   intro j
   by_cases hj:j<z
   ·obtain ⟨v,h1,h2⟩:=hq j hj
    rw [h1,aa8,aaM hj,aaQ]
    simpa using h2.symm
   ·rw [aaJ (by omega),aaJ (by rw [aaU];omega)]
  have one:∀i,i<gZ->∃x:α,PR ⟨λ_=>none,e8 W,m,[],λ_=>none⟩ (cell x) ((c.toList.drop (a.off+i*z)).take z)/\G x:=λi hi=>by
   have h1:=hel i hi
   rw [aai (by omega)] at h1
   obtain ⟨cs,h2,h3⟩:=aaF.1 h1
   obtain ⟨x,hx,hg⟩:=each n cs _ h3
   rw [(part i cs h2).1] at hx
   exact ⟨x,hx,hg⟩
  have size:a.off+fS*z<=c.size:=by
   have last:∃cs,W.cells? base' (a.add ((fS-1)*z)) z=some cs:=by
    by_cases lF:fS=gZ
    ·have h1:=hel (gZ-1) (by omega)
     rw [aai (by omega)] at h1
     obtain ⟨cs,h2,_⟩:=aaF.1 h1
     exact ⟨cs,by rw [lF];exact h2⟩
    ·obtain ⟨r1,r2⟩:=hsp rfl
     have h1:=r2 (fS-gZ-1) (by omega)
     rw [aai (by omega)] at h1
     obtain ⟨cs,h2,_⟩:=aaF.1 h1
     exact ⟨cs,by rw [show fS-1=gZ+(fS-gZ-1) by omega];exact h2⟩
   obtain ⟨cs,h1⟩:=last
   have:=(part _ cs h1).2
   have e:fS*z=(fS-1)*z+z:=by
    rw [show fS=(fS-1)+1 by omega,abJ,Nat.one_mul,Nat.add_sub_cancel]
   omega
  refine ⟨gZ,λi=>if hi:i<gZ then (one i hi).choose else default,_,hcs,.inr ⟨a.block,a.off,fS,c,t',fr,?_,?_,(λq=>by cases q),(λi hi=>?_),hl,size⟩,λi hi=>?_⟩
  ·obtain ⟨b,o,s⟩:=a
   simp only at hs
   subst hs;rfl
  ·show e8 W a.block=_
   unfold e8
   rw [hb]
  ·simp only [dif_pos hi]
   exact (one i hi).choose_spec.1
  ·simp only [dif_pos hi]
   exact (one i hi).choose_spec.2
theorem Eh {base m z:Nat} {t e:TypeId} {fuel:Nat} {held:Bool} {cs0:List Value} {x0:DataW H×List MemPlace} (ht:P.underlying t=some (.slice e)) (hc:P.cellsOf e=z) (UI:0<z)
  (hf:DataW.trod enc P W base (λ_=>true) held fuel t cs0=some x0):∃(len:Nat) (v:Value),cs0=[v]/\VR (gX (e8 W) m) (.aJ false 0 len (λ_=>[])) v:=by
 rcases DataW.trod_slice ht hf with ⟨hcs,_⟩|⟨a,gZ,fS,elems,rest,n,_,hcs,_,_,hl,_,hlen,hel,_,_⟩
 ·exact ⟨0,_,hcs,.inl ⟨rfl,none,0,rfl,λ_=>rfl⟩⟩
 ·by_cases h0:gZ=0
  ·exact ⟨0,_,hcs,.inl ⟨rfl,some a,fS,by rw [h0],λq=>by cases q⟩⟩
  rw [hc] at hel
  obtain ⟨c,t',fr,hb,hs,hlt⟩:=uf UI (by omega) hel hlen
  refine ⟨gZ,_,hcs,.inr ⟨a.block,a.off,fS,c,t',fr,?_,?_,(λq=>by cases q),(λi hi=>?_),hl,by omega⟩⟩
  ·obtain ⟨b,o,s⟩:=a
   simp only at hs
   subst hs;rfl
  ·show e8 W a.block=_
   unfold e8
   rw [hb]
  ·rw [List.take_zero];rfl
structure XL (P:Program) (e tn tl ts tk tb e1 eb:TypeId) (g0 g1 k0 k1:Field):Prop where
 s:P.underlying e=some (.struct #[g0,g1])
 c:P.cellsOf e=100
 ft:g0.type=tn/\g1.type=tl
 o:g0.offset=0/\g1.offset=99
 u:P.underlying tl=some (.slice ts)/\P.cellsOf tl=1/\P.cellsOf tn=99
 su:P.underlying ts=some (.struct #[k0,k1])
 sc:P.cellsOf ts=33
 sf:k0.type=tk/\k1.type=tb
 so:k0.offset=0/\k1.offset=32
 sk:P.underlying tk=some (.array 32 e1)/\P.underlying e1=some (.int .u8)/\P.cellsOf e1=1/\P.cellsOf tk=32/\P.underlying tb=some (.slice eb)/\P.cellsOf eb=1/\P.cellsOf tb=1
theorem Cw {n:Nat} (l:List Value) (h:l.length=n+1):l=(l.drop 0).take n++(l.drop n).take 1:=by
 rw [aao (l:=l.drop n) (by rw [aaN];omega),adN,abr]
theorem Eg {r:Reach} {base base' m:Nat} {t tn tl ts tk tb e1 eb t0 t1 t2 t3 t4 e2:TypeId} {g0 g1 k0 k1 f0 f1 f2 f3 f4 f5:Field} {v:Value} {d:DataW H} {p:List MemPlace} {held:Bool} (T:XL P t tn tl ts tk tb e1 eb g0 g1 k0 k1) (Tn:Q0 P tn t0 t1 t2 t3 t4 e1 e2 f0 f1 f2 f3 f4 f5)
  (hval:Value.okWide P W r base t v) (h:DataW.Trod enc P W base' (λ_=>true) held t v d p):
  ∃(x:aj) (S:Nat) (ks:Nat->List Int) (sv:Nat->Nat),VR (gX (e8 W) m) (.agg (x.cells++[.aJ false 33 S (λi=>[.ints .u8 32 (ks i),.aJ false 0 (sv i) λ_=>[]])])) v/\x.OK/\∀i,i<S->(ks i).length=32/\∀z∈ks i,0<=z/\z<256:=by
 obtain ⟨he,hc,⟨rfl,rfl⟩,⟨o0,o1⟩,⟨u1,c1,c0⟩,su,sc,⟨rfl,rfl⟩,⟨s0,s1⟩,⟨a1,a2,a3,a4,a5,a6,a7⟩⟩:=T
 have h':∃cs,v= .agg cs/\cs.size=P.cellsOf t/\Row.okWide P W r base t cs:=by
  unfold Value.okWide at hval
  rw [he] at hval
  exact hval
 obtain ⟨cs,rfl,hsz,_⟩:=h'
 obtain ⟨fuel,hf⟩:=h
 obtain ⟨xs,n',rfl,_,hl,gl,hfl⟩:=DataW.trod_struct he hf
 rw [hc] at hl
 have q0:=hfl 0 g0 rfl
 have q1:=hfl 1 g1 rfl
 rw [aai (by rw [gl];simp)] at q0 q1
 rw [o0,c0] at q0
 rw [o1,c1] at q1
 obtain ⟨x,hx,hok⟩:=vR (m:=m) Tn q0
 obtain ⟨S,f,w,hw,hv,hg⟩:=A8 (α:=List Int×Nat) (m:=m) (λa=>[.ints .u8 32 a.1,.aJ false 0 a.2 λ_=>[]]) (λa=>a.1.length=32/\∀z∈a.1,0<=z/\z<256) u1 sc (by decide) q1 λn cs y hy=>by
  obtain ⟨xs,n',rfl,_,hl,gl,hfl⟩:=DataW.trod_struct su hy
  rw [sc] at hl
  have q0:=hfl 0 k0 rfl
  have q1:=hfl 1 k1 rfl
  rw [aai (by rw [gl];simp)] at q0 q1
  rw [s0,a4] at q0
  rw [s1,a7] at q1
  obtain ⟨ks,e1',l1,w1⟩:=nh a1 a2 a3 a4 q0
  obtain ⟨len,v1,e2',r1⟩:=Eh (m:=m) a5 a6 (by decide) q1
  have hcs:=Cw (n:=32) cs hl
  rw [e1',e2'] at hcs
  subst hcs
  exact ⟨(ks,len),⟨[v1],⟨_,_,r1,rfl,rfl⟩,by show aU .u8 ks++[v1]=aU .u8 (cG 32 ks)++[v1];rw [bN l1]⟩,l1,w1⟩
 have hcs:cs.toList=(cs.toList.drop 0).take 99++(cs.toList.drop 99).take 1:=Cw (n:=99) _ hl
 refine ⟨x,S,λi=>(f i).1,λi=>(f i).2,⟨cs.toList,?_,by simp⟩,hok,hg⟩
 rw [hcs]
 refine PR.append hx ?_
 rw [show (cs.toList.drop 99).take 1=[w] from hw]
 exact ⟨_,_,hv,rfl,rfl⟩
end Go.Sy
