/- This file holds the texts SxB, SxC, a section each. No conditions beyond those in the theorems. -/
import Derived.Test.YthlnlcijnoadcaaGreatDoorGSxA
import Derived.MapKept
import Derived.ChangeMaps5
noncomputable section
set_option linter.all false
section
namespace Go.Sy
open Go
section
variable {P:Program}
end
def bO.Bn (Γ:bO) (q:Nat->Nat):bO:={Γ with nb:=λf=>match Nat.ble 1000000000 f with|true=>q (f-1000000000)|false=>Γ.nb f}
theorem bO.vY {P:Program} {Γ:bO} (h:ak P Γ) (q:Nat->Nat):ak P (Γ.Bn q) where
 wV:=h.wV
 calls:=h.calls
 pure:=h.pure
 inl:=h.inl
end Go.Sy
end
section
namespace Go.Sy
open Go
abbrev HP:=cP->Env->World->Prop
def TrX (P:Program) (ro:Option Nat) (k:Nat) (c:Code) (s:St) (H:HP) (x:Exit) (s':St) (H':HP):Prop:=
 ∀(B:cP) (e:Env) (w:World) (t':List Value) (d:List Deferred) (Q:Exit->Act->World->Prop) (nn:Nat),B.k<=k->TR e s.t t'->Rel B e s.h w->H B e w->
  (∀e' w' t'',TR e' s'.t t''->Rel B e' s'.h w'->H' B e' w'->Q x ⟨⟨t''⟩,p8 e'.m++d⟩ w')->c.wpIn (wF ro) nn P Q ⟨⟨t'⟩,p8 e.m++d⟩ w
def nD (P:Program) (ro:Option Nat) (k:Nat) (b:Code) (s:St) (H:HP) (x:Exit) (s':St) (H':HP):Prop:=
 ∃m:Nat,∀(B:cP) (e:Env) (w:World) (t':List Value) (d:List Deferred) (Q:Exit->Act->World->Prop) (nn:Nat),B.k<=k->TR e s.t t'->Rel B e s.h w->H B e w->
  (∀e' w' t'',TR e' s'.t t''->Rel B e' s'.h w'->H' B e' w'->Q x ⟨⟨t''⟩,p8 e'.m++d⟩ w')->Code.roundsIn (wF ro) nn P b Q m ⟨⟨t'⟩,p8 e.m++d⟩ w
section
variable {P:Program} {ro:Option Nat} {k:Nat} {H H1 H':HP}
theorem TrX.of {c:Code} {s s':St} {x:Exit} (h:Tr P ro k c s x s') (hH:∀B e w,H' B e w):TrX P ro k c s H x s' H':=
 λB e w t' d Q nn hB hl R _ hQ=>h B e w t' d Q nn hB hl R λe2 w2 t2 iI R2=>hQ e2 w2 t2 iI R2 (hH _ _ _)
theorem TrX.to {c:Code} {s s':St} {x:Exit} (h:TrX P ro k c s H x s' H') (hH:∀B e w,H B e w):Tr P ro k c s x s':=
 λB e w t' d Q nn hB hl R hQ=>h B e w t' d Q nn hB hl R (hH _ _ _) λe2 w2 t2 iI R2 _=>hQ e2 w2 t2 iI R2
theorem TrX.scope {b:Code} {s s':St} {x:Exit} (h:TrX P ro k b s H x s' H') (hx:∀l,x≠.goto l):TrX P ro k (.scope b) s H x s' H':=
 λB e w t' d Q nn hB hl R hH hQ=>tc (h B e w t' d _ nn hB hl R hH λe1 w1 t1 jn R1 g1=>⟨hx,hQ e1 w1 t1 jn R1 g1⟩)
theorem TrX.seq {a b:Code} {s s1 s':St} {x:Exit} (h1:TrX P ro k a s H .normal s1 H1) (h2:TrX P ro k b s1 H1 x s' H'):TrX P ro k (.seq a b) s H x s' H':=
 λB e w t' d Q nn hB hl R hH hQ=>wpIn_seq (h1 B e w t' d _ nn hB hl R hH λe1 w1 t1 jn R1 g1=>h2 B e1 w1 t1 d Q nn hB jn R1 g1 λe2 w2 t2 iI R2 g2=>hQ e2 w2 t2 iI R2 g2)
theorem TrX.j7 {a b:Code} {s s':St} {x:Exit} (h1:TrX P ro k a s H x s' H') (hx:x≠.normal):TrX P ro k (.seq a b) s H x s' H':=
 λB e w t' d Q nn hB hl R hH hQ=>wpIn_seq (h1 B e w t' d _ nn hB hl R hH λe1 w1 t1 jn R1 g1=>by
  have:=hQ e1 w1 t1 jn R1 g1
  cases x<;>first|exact absurd rfl hx|exact this)
theorem TrX.block {id:Nat} {b:Code} {s s':St} (h:TrX P ro k b s H (.exit id) s' H'):TrX P ro k (.block id b) s H .normal s' H':=
 λB e w t' d Q nn hB hl R hH hQ=>wpIn_block (h B e w t' d _ nn hB hl R hH λe1 w1 t1 jn R1 g1=>by
  show (if id=id then Q .normal _ _ else _)
  rw [aaM rfl];exact hQ e1 w1 t1 jn R1 g1)
theorem TrX.b8 {id:Nat} {b:Code} {s s':St} {x:Exit} (h:TrX P ro k b s H x s' H') (hx:∀j,x≠.exit j):TrX P ro k (.block id b) s H x s' H':=
 λB e w t' d Q nn hB hl R hH hQ=>wpIn_block (h B e w t' d _ nn hB hl R hH λe1 w1 t1 jn R1 g1=>by
  have:=hQ e1 w1 t1 jn R1 g1
  cases x<;>first|exact absurd rfl (hx _)|exact this)
theorem TrX.cond_true {c:Operand} {a b:Code} {s s':St} {x:Exit} (hc:ev s.t c=some (.bool true)) (h:TrX P ro k a s H x s' H'):TrX P ro k (.cond c a b) s H x s' H':=
 λB e w t' d Q nn hB hl R hH hQ=>wpIn_cond_true (aK hl hc) (h B e w t' d Q nn hB hl R hH hQ)
theorem TrX.cond_false {c:Operand} {a b:Code} {s s':St} {x:Exit} (hc:ev s.t c=some (.bool false)) (h:TrX P ro k b s H x s' H'):TrX P ro k (.cond c a b) s H x s' H':=
 λB e w t' d Q nn hB hl R hH hQ=>wpIn_cond_false (aK hl hc) (h B e w t' d Q nn hB hl R hH hQ)
theorem nD.leave {b:Code} {s s':St} {x:Exit} (h:TrX P ro k b s H x s' H') (hx:x≠.normal):nD P ro k b s H x s' H':=
 ⟨1,λB e w t' d Q nn hB hl R hH hQ=>by
  rw [roundsIn_succ]
  refine h B e w t' d _ nn hB hl R hH λe1 w1 t1 jn R1 g1=>?_
  have:=hQ e1 w1 t1 jn R1 g1
  cases x<;>first|exact absurd rfl hx|exact this⟩
theorem nD.step {b:Code} {s s1 s':St} {x:Exit} (h:TrX P ro k b s H .normal s1 H1) (g:nD P ro k b s1 H1 x s' H'):nD P ro k b s H x s' H':=by
 obtain ⟨m,hm⟩:=g
 refine ⟨m+1,λB e w t' d Q nn hB hl R hH hQ=>?_⟩
 rw [roundsIn_succ]
 exact h B e w t' d _ nn hB hl R hH λe1 w1 t1 jn R1 g1=>hm B e1 w1 t1 d Q nn hB jn R1 g1 λe2 w2 t2 iI R2 g2=>hQ e2 w2 t2 iI R2 g2
theorem nD.loop {b:Code} {s s':St} {x:Exit} (h:nD P ro k b s H x s' H'):TrX P ro k (.loop b) s H x s' H':=by
 obtain ⟨m,hm⟩:=h
 exact λB e w t' d Q nn hB hl R hH hQ=>wpIn_loop_rounds m (hm B e w t' d Q nn hB hl R hH hQ)
theorem nD.for {b:Code} {x:Exit} {s':St} (hx:x≠.normal) (f:Nat->St) (G:Nat->HP) (N:Nat) (hb:∀i,i<N->TrX P ro k b (f i) (G i) .normal (f (i+1)) (G (i+1))) (FY:TrX P ro k b (f N) (G N) x s' H'):nD P ro k b (f 0) (G 0) x s' H':=by
 have key:∀(m i:Nat),N=i+m->nD P ro k b (f i) (G i) x s' H':=by
  intro m
  induction m with
  |zero=>intro i hN;obtain rfl:N=i:=by omega
         exact nD.leave FY hx
  |succ m ih=>intro i hN;exact nD.step (hb i (by omega)) (ih (i+1) (by omega))
 exact key N 0 (by omega)
theorem TrX.post {c:Code} {s s1 s':St} {x:Exit} (h:TrX P ro k c s H x s1 H1) (g:∀(B:cP) (e:Env) (w:World) (t':List Value),B.k<=k->TR e s1.t t'->Rel B e s1.h w->H1 B e w->∃e',e'.m=e.m/\TR e' s'.t t'/\Rel B e' s'.h w/\H' B e' w):TrX P ro k c s H x s' H':=
 λB e w t' d Q nn hB hl R hH hQ=>h B e w t' d Q nn hB hl R hH λe2 w2 t2 iI R2 g2=>by
  obtain ⟨e1,h1,h2,h3,h4⟩:=g B e2 w2 t2 hB iI R2 g2
  rw [<-h1]
  exact hQ e1 w2 t2 h2 h3 h4
theorem Rel.Bo {B:cP} {e:Env} {h:List Blk} {w:World} (R:Rel B e h w) {e':Env} {h':List Blk} {w':World} (S:Rel (e7 e h w) e' h' w'):Rel B {e' with m:=e'.m++e.m} h' w':=by
 have T:=R.trans S
 exact {T with
  fc:=λr hr=>by
   rcases List.mem_append.1 hr with hr|hr
   ·exact ⟨(S.fc r hr).1,abi R.size (S.fc r hr).2⟩
   ·exact T.fc r hr
  gJ:=by
   refine List.nodup_append.2 ⟨S.gJ,R.gJ,λa ha b hb hab=>?_⟩
   subst hab
   have h1:w.heap.size<=a:=(S.fc a ha).2
   have h2:=(aav.1 (R.fc a hb).1).1
   omega
  ew:=λi ps hi=>(T.ew i ps hi).imp id λ⟨p,o,h1,h2,h3⟩=>⟨p,o,h1,h2,BR.mono (e:={e' with m:=e.m}) (e':={e' with m:=e'.m++e.m}) ⟨λ_ _ h=>h,λ_ _ h=>h,aaf _⟩ h3⟩
  gap:=λi g hi=>⟨(T.gap i g hi).1,(T.gap i g hi).2.le (λ_ _ h=>h) rfl ⟨λ_ _ h=>h,λ_ _ h=>h,aaf _⟩⟩}
def ru (H:HP):Prop:=∀(B:cP) (e:Env) (h:List Blk) (w:World) (e':Env) (h':List Blk) (w':World) (ms:List Nat),Rel B e h w->H B e w->Rel (e7 e h w) e' h' w'->H B {e' with m:=ms} w'
theorem uq (a b:List Nat):p8 (a++b)=p8 a++p8 b:=by simp [p8]
theorem TrX.frame (hH:ru H) {c:Code} {s s':St} {x:Exit} (g:Tr P ro s.h.length c s x s'):TrX P ro k c s H x s' H:=by
 intro B e w t' d Q nn hB hl R hh hQ
 have key:=g (e7 e s.h w) (e.bare s.h) w t' (p8 e.m++d) Q nn (aaf _) (hl.mono (jE e s.h)) R.self
 refine key λe' w' t'' hl' R'=>?_
 have:=hQ {e' with m:=e'.m++e.m} w' t'' (TR.mono (e:=e') (e':={e' with m:=e'.m++e.m}) ⟨λ_ _ h=>h,λ_ _ h=>h,aaf _⟩ hl') (R.Bo R') (hH B e s.h w e' s'.h w' _ R hh R')
 rw [uq,aaE] at this
 exact this
def OX (P:Program) (ro:Option Nat) (k:Nat) (ops:Array Oper) (is:List Nat) (s:St) (H:HP) (s':St) (H':HP):Prop:=
 ∀(B:cP) (e:Env) (w:World) (t':List Value) (d:List Deferred) (Q:Exit->Act->World->Prop) (nn:Nat) (rest:List Nat),B.k<=k->TR e s.t t'->Rel B e s.h w->H B e w->
  (∀e' w' t'',TR e' s'.t t''->Rel B e' s'.h w'->H' B e' w'->wpOpsIn (wF ro) nn P ops Q rest ⟨⟨t''⟩,p8 e'.m++d⟩ w')->wpOpsIn (wF ro) nn P ops Q (is++rest) ⟨⟨t'⟩,p8 e.m++d⟩ w
theorem OX.append {ops:Array Oper} {is js:List Nat} {s s1 s':St} (h1:OX P ro k ops is s H s1 H1) (h2:OX P ro k ops js s1 H1 s' H'):OX P ro k ops (is++js) s H s' H':=
 λB e w t' d Q nn rest hB hl R hh hQ=>by
  rw [aaE]
  exact h1 B e w t' d Q nn (js++rest) hB hl R hh λe1 w1 t1 jn R1 g1=>h2 B e1 w1 t1 d Q nn rest hB jn R1 g1 hQ
theorem TrX.region {ops:Array Oper} {s s':St} (id:Nat) (h:OX P ro k ops (List.range ops.size) s H s' H'):TrX P ro k (.region id ops false) s H .normal s' H':=
 λB e w t' d Q nn hB hl R hh hQ=>wpIn_region (by
  have:=h B e w t' d Q nn [] hB hl R hh λe1 w1 t1 jn R1 g1=>hQ e1 w1 t1 jn R1 g1
  rwa [aaz] at this)
theorem jK {G:bH} (hG:mj P G) {sym:Tmp->Option Bool} {ey:Tmp->Bool} {k n:Nat} {ops:Array Oper}:∀(is:List Nat) (s s':St),b7 P G sym ey k ops is s=some s'->s'.ob=true->
  ∀{B:cP} {e:Env} {w:World} {t':List Value} {d:List Deferred} {Q:Exit->Act->World->Prop} {rest:List Nat},(∀i p,B.e.r i=some p->i<k)->TR e s.t t'->Rel B e s.h w->
  (∀e' w' t'',e'.m=e.m->TR e' s'.t t''->Rel B e' s'.h w'->wpOpsIn (wF ro) n P ops Q rest ⟨⟨t''⟩,d⟩ w')->wpOpsIn (wF ro) n P ops Q (is++rest) ⟨⟨t'⟩,d⟩ w
 | [],s,s',g,_,B,e,w,t',d,Q,rest,hk,hl,R,hQ=>by
  simp only [b7,No] at g;subst g
  exact hQ e w t' rfl hl R
 |i::is,s,s',g,cA,B,e,w,t',d,Q,rest,hk,hl,R,hQ=>by
  simp only [b7] at g
  have hi:ops[i]? =ops.toList[i]? :=by simp
  rw [List.cons_append,wpOpsIn_cons]
  split at g
  ·rename_i hn
   rw [<-hi] at hn
   simp only [wpOpIn,hn]
   exact jK hG is s s' g cA hk hl R hQ
  ·rename_i o ho
   rw [<-hi] at ho
   split at g
   ·rename_i s1 h1
    refine s4 hG ho h1 (j0 is s1 s' g cA) hk hl R λe' w' t'' hm hl' R'=>?_
    exact jK hG is s1 s' g cA hk hl' R' λe2 w2 t2 hm2 iI R2=>hQ e2 w2 t2 (hm2.trans hm) iI R2
   ·cases g
theorem OX.run {Γ:bO} (hΓ:ak P Γ) (hH:ru H) (n:Nat) {ops:Array Oper} {is:List Nat} {s s':St} (g:b7 P (dH P Γ λk=>Sy.exec P Γ n k) Γ.sym Γ.ey s.h.length ops is s=some s') (cA:s'.ob=true):OX P ro k ops is s H s' H:=by
 intro B e w t' d Q nn rest hB hl R hh hQ
 refine jK (mw hΓ λro k=>(kX hΓ n ro k).1) is s s' g cA (B:=e7 e s.h w) (e:=e.bare s.h) (d:=p8 e.m++d) (λi p hi=>R.dom i p hi) (hl.mono (jE e s.h)) R.self λe' w' t'' hm hl' R'=>?_
 have:=hQ {e' with m:=e'.m++e.m} w' t'' (TR.mono (e:=e') (e':={e' with m:=e'.m++e.m}) ⟨λ_ _ h=>h,λ_ _ h=>h,aaf _⟩ hl') (R.Bo R') (hH B e s.h w e' s'.h w' _ R hh R')
 have h0:e'.m=[]:=hm
 rw [h0,List.nil_append] at this
 exact this
end
end Go.Sy
end
