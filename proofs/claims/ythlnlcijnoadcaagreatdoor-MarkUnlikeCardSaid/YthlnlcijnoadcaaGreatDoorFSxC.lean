/- This file gives a calculus of code beside which something lies in memory that the tracked blocks do not tell of ('TrX'). Conditions: that what lies there is kept by whatever else is not turned. -/
import Derived.Test.YthlnlcijnoadcaaGreatDoorFSxB
import Derived.MapKept
import Derived.ChangeMaps5
set_option linter.all false
namespace Go.Sy
open Go
abbrev HP:=Base→Env→World→Prop
def TrX (P:Program) (ro:Option Nat) (k:Nat) (c:Code) (s:St) (H:HP) (x:Exit) (s':St) (H':HP):Prop:=
 ∀(B:Base) (e:Env) (w:World) (t':List Value) (d:List Deferred) (Q:Exit→Act→World→Prop) (nn:Nat),B.k≤k→TR e s.t t'→Rel B e s.h w→H B e w→
  (∀e' w' t'',TR e' s'.t t''→Rel B e' s'.h w'→H' B e' w'→Q x ⟨⟨t''⟩,mkD e'.m++d⟩ w')→c.wpIn (wF ro) nn P Q ⟨⟨t'⟩,mkD e.m++d⟩ w
def TrRX (P:Program) (ro:Option Nat) (k:Nat) (b:Code) (s:St) (H:HP) (x:Exit) (s':St) (H':HP):Prop:=
 ∃m:Nat,∀(B:Base) (e:Env) (w:World) (t':List Value) (d:List Deferred) (Q:Exit→Act→World→Prop) (nn:Nat),B.k≤k→TR e s.t t'→Rel B e s.h w→H B e w→
  (∀e' w' t'',TR e' s'.t t''→Rel B e' s'.h w'→H' B e' w'→Q x ⟨⟨t''⟩,mkD e'.m++d⟩ w')→Code.roundsIn (wF ro) nn P b Q m ⟨⟨t'⟩,mkD e.m++d⟩ w
section
variable {P:Program} {ro:Option Nat} {k:Nat} {H H1 H':HP}
theorem TrX.of {c:Code} {s s':St} {x:Exit} (h:Tr P ro k c s x s') (hH:∀B e w,H' B e w):TrX P ro k c s H x s' H':=
 fun B e w t' d Q nn hB hl R _ hQ=>h B e w t' d Q nn hB hl R fun e2 w2 t2 hl2 R2=>hQ e2 w2 t2 hl2 R2 (hH _ _ _)
theorem TrX.to {c:Code} {s s':St} {x:Exit} (h:TrX P ro k c s H x s' H') (hH:∀B e w,H B e w):Tr P ro k c s x s':=
 fun B e w t' d Q nn hB hl R hQ=>h B e w t' d Q nn hB hl R (hH _ _ _) fun e2 w2 t2 hl2 R2 _=>hQ e2 w2 t2 hl2 R2
theorem TrX.scope {b:Code} {s s':St} {x:Exit} (h:TrX P ro k b s H x s' H') (hx:∀l,x≠.goto l):TrX P ro k (.scope b) s H x s' H':=
 fun B e w t' d Q nn hB hl R hH hQ=>wpIn_scope (h B e w t' d _ nn hB hl R hH fun e1 w1 t1 hl1 R1 g1=>⟨hx,hQ e1 w1 t1 hl1 R1 g1⟩)
theorem TrX.seq {a b:Code} {s s1 s':St} {x:Exit} (h1:TrX P ro k a s H .normal s1 H1) (h2:TrX P ro k b s1 H1 x s' H'):TrX P ro k (.seq a b) s H x s' H':=
 fun B e w t' d Q nn hB hl R hH hQ=>wpIn_seq (h1 B e w t' d _ nn hB hl R hH fun e1 w1 t1 hl1 R1 g1=>h2 B e1 w1 t1 d Q nn hB hl1 R1 g1 fun e2 w2 t2 hl2 R2 g2=>hQ e2 w2 t2 hl2 R2 g2)
theorem TrX.seq_leave {a b:Code} {s s':St} {x:Exit} (h1:TrX P ro k a s H x s' H') (hx:x≠.normal):TrX P ro k (.seq a b) s H x s' H':=
 fun B e w t' d Q nn hB hl R hH hQ=>wpIn_seq (h1 B e w t' d _ nn hB hl R hH fun e1 w1 t1 hl1 R1 g1=>by
  have:=hQ e1 w1 t1 hl1 R1 g1
  cases x<;>first|exact absurd rfl hx|exact this)
theorem TrX.block {id:Nat} {b:Code} {s s':St} (h:TrX P ro k b s H (.exit id) s' H'):TrX P ro k (.block id b) s H .normal s' H':=
 fun B e w t' d Q nn hB hl R hH hQ=>wpIn_block (h B e w t' d _ nn hB hl R hH fun e1 w1 t1 hl1 R1 g1=>by
  show (if id=id then Q .normal _ _ else _)
  rw [if_pos rfl];exact hQ e1 w1 t1 hl1 R1 g1)
theorem TrX.block_pass {id:Nat} {b:Code} {s s':St} {x:Exit} (h:TrX P ro k b s H x s' H') (hx:∀j,x≠.exit j):TrX P ro k (.block id b) s H x s' H':=
 fun B e w t' d Q nn hB hl R hH hQ=>wpIn_block (h B e w t' d _ nn hB hl R hH fun e1 w1 t1 hl1 R1 g1=>by
  have:=hQ e1 w1 t1 hl1 R1 g1
  cases x<;>first|exact absurd rfl (hx _)|exact this)
theorem TrX.cond_true {c:Operand} {a b:Code} {s s':St} {x:Exit} (hc:ev s.t c=some (.bool true)) (h:TrX P ro k a s H x s' H'):TrX P ro k (.cond c a b) s H x s' H':=
 fun B e w t' d Q nn hB hl R hH hQ=>wpIn_cond_true (ev_sound hl hc) (h B e w t' d Q nn hB hl R hH hQ)
theorem TrX.cond_false {c:Operand} {a b:Code} {s s':St} {x:Exit} (hc:ev s.t c=some (.bool false)) (h:TrX P ro k b s H x s' H'):TrX P ro k (.cond c a b) s H x s' H':=
 fun B e w t' d Q nn hB hl R hH hQ=>wpIn_cond_false (ev_sound hl hc) (h B e w t' d Q nn hB hl R hH hQ)
theorem TrRX.leave {b:Code} {s s':St} {x:Exit} (h:TrX P ro k b s H x s' H') (hx:x≠.normal):TrRX P ro k b s H x s' H':=
 ⟨1,fun B e w t' d Q nn hB hl R hH hQ=>by
  rw [roundsIn_succ]
  refine h B e w t' d _ nn hB hl R hH fun e1 w1 t1 hl1 R1 g1=>?_
  have:=hQ e1 w1 t1 hl1 R1 g1
  cases x<;>first|exact absurd rfl hx|exact this⟩
theorem TrRX.step {b:Code} {s s1 s':St} {x:Exit} (h:TrX P ro k b s H .normal s1 H1) (g:TrRX P ro k b s1 H1 x s' H'):TrRX P ro k b s H x s' H':=by
 obtain ⟨m,hm⟩:=g
 refine ⟨m+1,fun B e w t' d Q nn hB hl R hH hQ=>?_⟩
 rw [roundsIn_succ]
 exact h B e w t' d _ nn hB hl R hH fun e1 w1 t1 hl1 R1 g1=>hm B e1 w1 t1 d Q nn hB hl1 R1 g1 fun e2 w2 t2 hl2 R2 g2=>hQ e2 w2 t2 hl2 R2 g2
theorem TrRX.loop {b:Code} {s s':St} {x:Exit} (h:TrRX P ro k b s H x s' H'):TrX P ro k (.loop b) s H x s' H':=by
 obtain ⟨m,hm⟩:=h
 exact fun B e w t' d Q nn hB hl R hH hQ=>wpIn_loop_rounds m (hm B e w t' d Q nn hB hl R hH hQ)
theorem TrRX.for {b:Code} {x:Exit} {s':St} (hx:x≠.normal) (f:Nat→St) (G:Nat→HP) (N:Nat) (hb:∀i,i<N→TrX P ro k b (f i) (G i) .normal (f (i+1)) (G (i+1))) (hlast:TrX P ro k b (f N) (G N) x s' H'):TrRX P ro k b (f 0) (G 0) x s' H':=by
 have key:∀(m i:Nat),N=i+m→TrRX P ro k b (f i) (G i) x s' H':=by
  intro m
  induction m with
  |zero=>intro i hN;obtain rfl:N=i:=by omega
         exact TrRX.leave hlast hx
  |succ m ih=>intro i hN;exact TrRX.step (hb i (by omega)) (ih (i+1) (by omega))
 exact key N 0 (by omega)
theorem TrX.post {c:Code} {s s1 s':St} {x:Exit} (h:TrX P ro k c s H x s1 H1) (g:∀(B:Base) (e:Env) (w:World) (t':List Value),B.k≤k→TR e s1.t t'→Rel B e s1.h w→H1 B e w→∃e',e'.m=e.m∧TR e' s'.t t'∧Rel B e' s'.h w∧H' B e' w):TrX P ro k c s H x s' H':=
 fun B e w t' d Q nn hB hl R hH hQ=>h B e w t' d Q nn hB hl R hH fun e2 w2 t2 hl2 R2 g2=>by
  obtain ⟨e1,h1,h2,h3,h4⟩:=g B e2 w2 t2 hB hl2 R2 g2
  rw [←h1]
  exact hQ e1 w2 t2 h2 h3 h4
theorem Rel.transM {B:Base} {e:Env} {h:List Blk} {w:World} (R:Rel B e h w) {e':Env} {h':List Blk} {w':World} (S:Rel (baseOf e h w) e' h' w'):Rel B {e' with m:=e'.m++e.m} h' w':=by
 have T:=R.trans S
 exact {T with
  mks:=fun r hr=>by
   rcases List.mem_append.1 hr with hr|hr
   ·exact ⟨(S.mks r hr).1,Nat.le_trans R.size (S.mks r hr).2⟩
   ·exact T.mks r hr
  mnd:=by
   refine List.nodup_append.2 ⟨S.mnd,R.mnd,fun a ha b hb hab=>?_⟩
   subst hab
   have h1:w.heap.size≤a:=(S.mks a ha).2
   have h2:=(Array.getElem?_eq_some_iff.1 (R.mks a hb).1).1
   omega
  blk:=fun i ps hi=>(T.blk i ps hi).imp id fun ⟨p,o,h1,h2,h3⟩=>⟨p,o,h1,h2,BR.mono (e:={e' with m:=e.m}) (e':={e' with m:=e'.m++e.m}) ⟨fun _ _ h=>h,fun _ _ h=>h,Nat.le_refl _⟩ h3⟩
  gap:=fun i g hi=>⟨(T.gap i g hi).1,(T.gap i g hi).2.le (fun _ _ h=>h) rfl ⟨fun _ _ h=>h,fun _ _ h=>h,Nat.le_refl _⟩⟩}
def Keeps (H:HP):Prop:=∀(B:Base) (e:Env) (h:List Blk) (w:World) (e':Env) (h':List Blk) (w':World) (ms:List Nat),Rel B e h w→H B e w→Rel (baseOf e h w) e' h' w'→H B {e' with m:=ms} w'
theorem mkD_append (a b:List Nat):mkD (a++b)=mkD a++mkD b:=by simp [mkD]
theorem TrX.frame (hH:Keeps H) {c:Code} {s s':St} {x:Exit} (g:Tr P ro s.h.length c s x s'):TrX P ro k c s H x s' H:=by
 intro B e w t' d Q nn hB hl R hh hQ
 have key:=g (baseOf e s.h w) (e.bare s.h) w t' (mkD e.m++d) Q nn (Nat.le_refl _) (hl.mono (bare_le e s.h)) R.self
 refine key fun e' w' t'' hl' R'=>?_
 have:=hQ {e' with m:=e'.m++e.m} w' t'' (TR.mono (e:=e') (e':={e' with m:=e'.m++e.m}) ⟨fun _ _ h=>h,fun _ _ h=>h,Nat.le_refl _⟩ hl') (R.transM R') (hH B e s.h w e' s'.h w' _ R hh R')
 rw [mkD_append,List.append_assoc] at this
 exact this
def OX (P:Program) (ro:Option Nat) (k:Nat) (ops:Array Oper) (is:List Nat) (s:St) (H:HP) (s':St) (H':HP):Prop:=
 ∀(B:Base) (e:Env) (w:World) (t':List Value) (d:List Deferred) (Q:Exit→Act→World→Prop) (nn:Nat) (rest:List Nat),B.k≤k→TR e s.t t'→Rel B e s.h w→H B e w→
  (∀e' w' t'',TR e' s'.t t''→Rel B e' s'.h w'→H' B e' w'→wpOpsIn (wF ro) nn P ops Q rest ⟨⟨t''⟩,mkD e'.m++d⟩ w')→wpOpsIn (wF ro) nn P ops Q (is++rest) ⟨⟨t'⟩,mkD e.m++d⟩ w
theorem OX.append {ops:Array Oper} {is js:List Nat} {s s1 s':St} (h1:OX P ro k ops is s H s1 H1) (h2:OX P ro k ops js s1 H1 s' H'):OX P ro k ops (is++js) s H s' H':=
 fun B e w t' d Q nn rest hB hl R hh hQ=>by
  rw [List.append_assoc]
  exact h1 B e w t' d Q nn (js++rest) hB hl R hh fun e1 w1 t1 hl1 R1 g1=>h2 B e1 w1 t1 d Q nn rest hB hl1 R1 g1 hQ
theorem TrX.region {ops:Array Oper} {s s':St} (id:Nat) (h:OX P ro k ops (List.range ops.size) s H s' H'):TrX P ro k (.region id ops false) s H .normal s' H':=
 fun B e w t' d Q nn hB hl R hh hQ=>wpIn_region (by
  have:=h B e w t' d Q nn [] hB hl R hh fun e1 w1 t1 hl1 R1 g1=>hQ e1 w1 t1 hl1 R1 g1
  rwa [List.append_nil] at this)
theorem runOps_rest {G:CallFn} (hG:GSound P G) {sym:Tmp→Option Bool} {inp:Tmp→Bool} {k n:Nat} {ops:Array Oper}:∀(is:List Nat) (s s':St),runOps P G sym inp k ops is s=some s'→s'.ob=true→
  ∀{B:Base} {e:Env} {w:World} {t':List Value} {d:List Deferred} {Q:Exit→Act→World→Prop} {rest:List Nat},(∀i p,B.e.r i=some p→i<k)→TR e s.t t'→Rel B e s.h w→
  (∀e' w' t'',e'.m=e.m→TR e' s'.t t''→Rel B e' s'.h w'→wpOpsIn (wF ro) n P ops Q rest ⟨⟨t''⟩,d⟩ w')→wpOpsIn (wF ro) n P ops Q (is++rest) ⟨⟨t'⟩,d⟩ w
 | [],s,s',g,_,B,e,w,t',d,Q,rest,hk,hl,R,hQ=>by
  simp only [runOps,Option.some.injEq] at g;subst g
  exact hQ e w t' rfl hl R
 |i::is,s,s',g,hob,B,e,w,t',d,Q,rest,hk,hl,R,hQ=>by
  simp only [runOps] at g
  have hi:ops[i]? =ops.toList[i]? :=by simp
  rw [List.cons_append,wpOpsIn_cons]
  split at g
  ·rename_i hn
   rw [←hi] at hn
   simp only [wpOpIn,hn]
   exact runOps_rest hG is s s' g hob hk hl R hQ
  ·rename_i o ho
   rw [←hi] at ho
   split at g
   ·rename_i s1 h1
    refine wpOp_sound hG ho h1 (runOps_ob is s1 s' g hob) hk hl R fun e' w' t'' hm hl' R'=>?_
    exact runOps_rest hG is s1 s' g hob hk hl' R' fun e2 w2 t2 hm2 hl2 R2=>hQ e2 w2 t2 (hm2.trans hm) hl2 R2
   ·cases g
theorem OX.run {Γ:Ctr} (hΓ:CtrSound P Γ) (hH:Keeps H) (n:Nat) {ops:Array Oper} {is:List Nat} {s s':St} (g:runOps P (callG P Γ fun k=>Sy.exec P Γ n k) Γ.sym Γ.inp s.h.length ops is s=some s') (hob:s'.ob=true):OX P ro k ops is s H s' H:=by
 intro B e w t' d Q nn rest hB hl R hh hQ
 refine runOps_rest (callG_sound hΓ fun ro k=>(exec_sound hΓ n ro k).1) is s s' g hob (B:=baseOf e s.h w) (e:=e.bare s.h) (d:=mkD e.m++d) (fun i p hi=>R.dom i p hi) (hl.mono (bare_le e s.h)) R.self fun e' w' t'' hm hl' R'=>?_
 have:=hQ {e' with m:=e'.m++e.m} w' t'' (TR.mono (e:=e') (e':={e' with m:=e'.m++e.m}) ⟨fun _ _ h=>h,fun _ _ h=>h,Nat.le_refl _⟩ hl') (R.transM R') (hH B e s.h w e' s'.h w' _ R hh R')
 have h0:e'.m=[]:=hm
 rw [h0,List.nil_append] at this
 exact this
end
end Go.Sy
