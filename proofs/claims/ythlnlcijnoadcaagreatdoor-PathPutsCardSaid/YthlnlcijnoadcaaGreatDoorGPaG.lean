/- This file proves the contract of the reference's renew (burrowref17). Conditions: trees in form, of 71 nodes at most; a used leaf; the turns of that leaf. -/
import Derived.Test.YthlnlcijnoadcaaGreatDoorGPaF
noncomputable section
open Go.Proofs.Tryz
open Go.IntKind (i64 u8 u64 u32)
set_option linter.all false
set_option maxRecDepth 100000
namespace Go.Proofs.YthlnlcijnoadcaaGreatDoor.Pa
open Go Go.Sy Tr S2 Mk
def Lg:Entry prog:=.rdm 42 _ func42 (by decide) rfl GO (λus h0=>match us,h0 with
 | [.bK 0 99 N M ex,.int .i64 x,.int .i64 c],[.b [.rows 99 K g]]=>some (.agg [.ints .u8 32 (iu (ag g) x (aN x+aH x-c))],bF N g&&decide (N<=71)&&decide (N=M)&&decide (N=K)&&p9 N (ag g) x c&&e9 N (ag g))
 |_,_=>none) λus h0 v e=>by
 split at e
 ·simp only [No,aae,aac,aab] at e
  obtain ⟨rfl,⟨⟨⟨⟨h1,h2⟩,rfl⟩,rfl⟩,h3⟩,h4⟩:=e
  exact ai.Ou (ai.conv (GF (cF.of h1 h2) h3 h4) ⟨VE.Gy (VE.Ov h1),VE.refl _,VE.refl _,trivial⟩ trivial (VE.refl _) trivial) rfl rfl
 ·cases e
def rP (l:List (Nat×Bool)):bO:=mk (P:=prog) [QE,uc,G6,Lg] [] (uT l)
theorem ig (l:List (Nat×Bool)):ak prog (rP l):=az _ aL.nil _ _
def qE:Code:=aP f55
def ij (a:Nat) (N:Nat) (u:Nat->aj) (leaf:List Int) (i:Int) (ws kd:List Int) (K:Nat) (ks:Nat->List Int) (pl:List Int) (k:Int):St:=⟨slotsOf 111 [(1,.int .i64 i),(2,.ro false .i64 ws),(3,.ro false .i64 kd),(5,.aJ false 32 K (gF ks)),(10,.ptr 0 0 0),(13,.bK 1 99 N N false),(14,.ro true .i64 pl),(a,.int .i64 k)],[.b [.ints .u8 32 leaf],.b [.rows 99 N (aq u)]],true⟩
def prF (u:Nat->aj) (X:Nat) (par:List Int):Nat->List SV:=λj=>br (Nat.beq j X) [.bool (u X).used,.int .i64 (u X).name,.ints .u8 32 (u X).key,.ints .u8 32 (u X).sign,.ints .u8 32 par,.ro false .i64 (u X).un] (aq u j)
theorem acV (N:Nat) (t:Nat->aj) (leaf:List Int) (i:Int) (ws kd:List Int) (K:Nat) (ks:Nat->List Int):aA (ah [1,2,3,5,10,13,14,15] 2 ((aE prog (rP []) 60 0 4 (atoms qE) ⟨aD f55.ntmps [.aJ false 99 N (aq t),.int .i64 i,.ro false .i64 ws,.ro false .i64 kd,.agg [.ints .u8 32 leaf],.aJ false 32 K (gF ks)],[],true⟩).map λs=>(Exit.normal,s)))=some (.normal,(ij 15 N t leaf i ws kd K ks (dW (aO N) (i64.wrap (2*i)) (bt (aO N).toNat)) 0).t,(ij 15 N t leaf i ws kd K ks [] 0).h):=by kernel_rfl
theorem Xf (N:Nat) (t:Nat->aj) (leaf:List Int) (i:Int) (ws kd:List Int) (K:Nat) (ks:Nat->List Int):aZ (ah [1,2,3,5,10,13,14,15] 2 ((aE prog (rP []) 60 0 4 (atoms qE) ⟨aD f55.ntmps [.aJ false 99 N (aq t),.int .i64 i,.ro false .i64 ws,.ro false .i64 kd,.agg [.ints .u8 32 leaf],.aJ false 32 K (gF ks)],[],true⟩).map λs=>(Exit.normal,s)))=(aa (aa (aa true (aa true ((bF N λi=>af (aq t i))&&decide (N<=71)))) (aa true (true&&decide (((N:Nat):Int)<72)))) (aa true (Xa (i64.wrap (2*i)) (aO ((N:Nat):Int))))):=by kernel_rfl
theorem acW (N:Nat) (u:Nat->aj) (leaf:List Int) (i:Int) (ws kd:List Int) (K:Nat) (ks:Nat->List Int) (pl:List Int) (k:Int):aA (ah [1,2,3,5,10,13,14,15] 2 (exec prog (rP [(29,true)]) 60 0 (inner (inner (au 4 qE))) (ij 15 N u leaf i ws kd K ks pl k)))=some (.normal,(ij 15 N u leaf i ws kd K ks pl (i64.wrap (k+1))).t,[.b [.ints .u8 32 leaf],.b [.rows 99 N λj=>br (Nat.beq j (pl.getD k.toNat 0).toNat) [.bool false,.int .i64 0,.ints .u8 32 (List.replicate 32 0),.ints .u8 32 (List.replicate 32 0),.ints .u8 32 (List.replicate 32 0),.nl (.slice none 0 0)] (aq u j)]]):=by kernel_rfl
theorem Xg (N:Nat) (u:Nat->aj) (leaf:List Int) (i:Int) (ws kd:List Int) (K:Nat) (ks:Nat->List Int) (pl:List Int) (k:Int):aZ (ah [1,2,3,5,10,13,14,15] 2 (exec prog (rP [(29,true)]) 60 0 (inner (inner (au 4 qE))) (ij 15 N u leaf i ws kd K ks pl k)))=(aa (aa (aa (aa (aa true (decide (k<((pl.length:Nat):Int)))) (aX k pl.length)) (decide (k.toNat<pl.length))) (aX (pl.getD k.toNat 0) N)) (decide ((pl.getD k.toNat 0).toNat<N))):=by kernel_rfl
theorem acX (N:Nat) (u:Nat->aj) (leaf:List Int) (i:Int) (ws kd:List Int) (K:Nat) (ks:Nat->List Int) (pl:List Int) (k:Int):aA (ah [1,2,3,5,10,13,14,15] 2 (exec prog (rP [(29,false)]) 60 0 (inner (inner (au 4 qE))) (ij 15 N u leaf i ws kd K ks pl k)))=some (.exit 0,(ij 15 N u leaf i ws kd K ks pl k).t,(ij 15 N u leaf i ws kd K ks pl k).h):=by kernel_rfl
theorem Xh (N:Nat) (u:Nat->aj) (leaf:List Int) (i:Int) (ws kd:List Int) (K:Nat) (ks:Nat->List Int) (pl:List Int) (k:Int):aZ (ah [1,2,3,5,10,13,14,15] 2 (exec prog (rP [(29,false)]) 60 0 (inner (inner (au 4 qE))) (ij 15 N u leaf i ws kd K ks pl k)))=(aa true !decide (k<((pl.length:Nat):Int))):=by kernel_rfl
theorem acY (N:Nat) (u:Nat->aj) (leaf:List Int) (i:Int) (ws kd:List Int) (K:Nat) (ks:Nat->List Int) (pl:List Int) (k:Int):aA (ah [1,2,3,5,10,13,14,16] 2 ((aE prog (rP []) 60 0 1 ((atoms qE).drop 5) (ij 15 N u leaf i ws kd K ks pl k)).map λs=>(Exit.normal,s)))=some (.normal,(ij 16 N u leaf i ws kd K ks pl 0).t,(ij 16 N u leaf i ws kd K ks pl 0).h):=by kernel_rfl
theorem Xi (N:Nat) (u:Nat->aj) (leaf:List Int) (i:Int) (ws kd:List Int) (K:Nat) (ks:Nat->List Int) (pl:List Int) (k:Int):aZ (ah [1,2,3,5,10,13,14,16] 2 ((aE prog (rP []) 60 0 1 ((atoms qE).drop 5) (ij 15 N u leaf i ws kd K ks pl k)).map λs=>(Exit.normal,s)))=(true):=by kernel_rfl
theorem acZ (N:Nat) (u:Nat->aj) (leaf:List Int) (i:Int) (ws kd:List Int) (K:Nat) (ks:Nat->List Int) (pl:List Int) (k:Int):aA (ah [1,2,3,5,10,13,14,16] 2 (exec prog (rP [(42,true)]) 60 0 (inner (inner (au 6 qE))) (ij 16 N u leaf i ws kd K ks pl k)))=some (.normal,(ij 16 N u leaf i ws kd K ks pl (i64.wrap (k+1))).t,[.b [.ints .u8 32 leaf],.b [.rows 99 N λj=>br (Nat.beq j (ws.getD k.toNat 0).toNat) (WK (ks k.toNat) (List.replicate 32 0)) (aq u j)]]):=by kernel_rfl
theorem Xj (N:Nat) (u:Nat->aj) (leaf:List Int) (i:Int) (ws kd:List Int) (K:Nat) (ks:Nat->List Int) (pl:List Int) (k:Int):aZ (ah [1,2,3,5,10,13,14,16] 2 (exec prog (rP [(42,true)]) 60 0 (inner (inner (au 6 qE))) (ij 16 N u leaf i ws kd K ks pl k)))=(aa (aa (aa (aa (aa (aa (aa true (decide (k<((ws.length:Nat):Int)))) (aX k ws.length)) (decide (k.toNat<ws.length))) (aX k K)) (true&&(decide (k.toNat<K)&&true))) (aX (ws.getD k.toNat 0) N)) (decide ((ws.getD k.toNat 0).toNat<N))):=by kernel_rfl
theorem ac0 (N:Nat) (u:Nat->aj) (leaf:List Int) (i:Int) (ws kd:List Int) (K:Nat) (ks:Nat->List Int) (pl:List Int) (k:Int):aA (ah [1,2,3,5,10,13,14,16] 2 (exec prog (rP [(42,false)]) 60 0 (inner (inner (au 6 qE))) (ij 16 N u leaf i ws kd K ks pl k)))=some (.exit 2,(ij 16 N u leaf i ws kd K ks pl k).t,(ij 16 N u leaf i ws kd K ks pl k).h):=by kernel_rfl
theorem Xk (N:Nat) (u:Nat->aj) (leaf:List Int) (i:Int) (ws kd:List Int) (K:Nat) (ks:Nat->List Int) (pl:List Int) (k:Int):aZ (ah [1,2,3,5,10,13,14,16] 2 (exec prog (rP [(42,false)]) 60 0 (inner (inner (au 6 qE))) (ij 16 N u leaf i ws kd K ks pl k)))=(aa true !decide (k<((ws.length:Nat):Int))):=by kernel_rfl
theorem ac1 (N:Nat) (u:Nat->aj) (leaf:List Int) (i:Int) (ws kd:List Int) (K:Nat) (ks:Nat->List Int) (pl:List Int) (k:Int):aA (ah [1,2,3,5,10,13,14,17] 2 ((aE prog (rP []) 60 0 1 ((atoms qE).drop 7) (ij 16 N u leaf i ws kd K ks pl k)).map λs=>(Exit.normal,s)))=some (.normal,(ij 17 N u leaf i ws kd K ks pl (i64.wrap ((ws.length:Int)-2))).t,(ij 17 N u leaf i ws kd K ks pl 0).h):=by kernel_rfl
theorem Xl (N:Nat) (u:Nat->aj) (leaf:List Int) (i:Int) (ws kd:List Int) (K:Nat) (ks:Nat->List Int) (pl:List Int) (k:Int):aZ (ah [1,2,3,5,10,13,14,17] 2 ((aE prog (rP []) 60 0 1 ((atoms qE).drop 7) (ij 16 N u leaf i ws kd K ks pl k)).map λs=>(Exit.normal,s)))=(true):=by kernel_rfl
theorem ac2 (N:Nat) (u:Nat->aj) (leaf:List Int) (i:Int) (ws kd:List Int) (K:Nat) (ks:Nat->List Int) (pl:List Int) (k:Int):aA (ah [1,2,3,5,10,13,14,17] 2 (exec prog (rP [(60,true)]) 60 0 (inner (inner (au 8 qE))) (ij 17 N u leaf i ws kd K ks pl k)))=some (.normal,(ij 17 N u leaf i ws kd K ks pl (i64.wrap (k-1))).t,[.b [.ints .u8 32 leaf],.b [.rows 99 N (prF u (ws.getD k.toNat 0).toNat (iu u (ws.getD (i64.wrap (k+1)).toNat 0) (aN (ws.getD (i64.wrap (k+1)).toNat 0)+aH (ws.getD (i64.wrap (k+1)).toNat 0)-kd.getD (i64.wrap (k+1)).toNat 0)))]]):=by kernel_rfl
theorem Xm (N:Nat) (u:Nat->aj) (leaf:List Int) (i:Int) (ws kd:List Int) (K:Nat) (ks:Nat->List Int) (pl:List Int) (k:Int):aZ (ah [1,2,3,5,10,13,14,17] 2 (exec prog (rP [(60,true)]) 60 0 (inner (inner (au 8 qE))) (ij 17 N u leaf i ws kd K ks pl k)))=(aa (aa (aa (aa (aa (aa (aa (aa (aa (aa true (decide (k>=0))) (aX k ws.length)) (decide (k.toNat<ws.length))) (aX (i64.wrap (k+1)) ws.length)) (decide ((i64.wrap (k+1)).toNat<ws.length))) (aX (i64.wrap (k+1)) kd.length)) (decide ((i64.wrap (k+1)).toNat<kd.length))) (aa true (bF N (aq u)&&decide (N<=71)&&decide (N=N)&&decide (N=N)&&p9 N (ag (aq u)) (ws.getD (i64.wrap (k+1)).toNat 0) (kd.getD (i64.wrap (k+1)).toNat 0)&&e9 N (ag (aq u))))) (aX (ws.getD k.toNat 0) N)) (decide ((ws.getD k.toNat 0).toNat<N))):=by kernel_rfl
theorem ac3 (N:Nat) (u:Nat->aj) (leaf:List Int) (i:Int) (ws kd:List Int) (K:Nat) (ks:Nat->List Int) (pl:List Int) (k:Int):aA (ah [1,2,3,5,10,13,14,17] 2 (exec prog (rP [(60,false)]) 60 0 (inner (inner (au 8 qE))) (ij 17 N u leaf i ws kd K ks pl k)))=some (.exit 4,(ij 17 N u leaf i ws kd K ks pl k).t,(ij 17 N u leaf i ws kd K ks pl k).h):=by kernel_rfl
theorem Xn (N:Nat) (u:Nat->aj) (leaf:List Int) (i:Int) (ws kd:List Int) (K:Nat) (ks:Nat->List Int) (pl:List Int) (k:Int):aZ (ah [1,2,3,5,10,13,14,17] 2 (exec prog (rP [(60,false)]) 60 0 (inner (inner (au 8 qE))) (ij 17 N u leaf i ws kd K ks pl k)))=(aa true !decide (k>=0)):=by kernel_rfl
theorem ac4 (N:Nat) (u:Nat->aj) (leaf:List Int) (i:Int) (ws kd:List Int) (K:Nat) (ks:Nat->List Int) (pl:List Int) (k:Int):aA (ah [1,2,3,5,10,13,14,17] 2 ((aE prog (rP []) 60 0 2 ((atoms qE).drop 9) (ij 17 N u leaf i ws kd K ks pl k)).map λs=>(Exit.normal,s)))=some (.normal,(ij 17 N u leaf i ws kd K ks pl k).t,[.b [.ints .u8 32 leaf],.b [.rows 99 N (lf2 u (i64.wrap (2*i)).toNat leaf (List.replicate 32 0))]]):=by kernel_rfl
theorem Xo (N:Nat) (u:Nat->aj) (leaf:List Int) (i:Int) (ws kd:List Int) (K:Nat) (ks:Nat->List Int) (pl:List Int) (k:Int):aZ (ah [1,2,3,5,10,13,14,17] 2 ((aE prog (rP []) 60 0 2 ((atoms qE).drop 9) (ij 17 N u leaf i ws kd K ks pl k)).map λs=>(Exit.normal,s)))=(aa (aa (aa (aa true (aX (i64.wrap (2*i)) N)) (decide ((i64.wrap (2*i)).toNat<N))) (aX (i64.wrap (2*i)) N)) (decide ((i64.wrap (2*i)).toNat<N))):=by kernel_rfl
theorem ac5 (N:Nat) (u:Nat->aj) (leaf:List Int) (i:Int) (ws kd:List Int) (K:Nat) (ks:Nat->List Int) (pl:List Int) (k:Int):aA (ah [12] 2 (cn prog (rP [(96,false)]) 60 0 ((atoms qE).drop 11) (ij 17 N u leaf i ws kd K ks pl k)))=some (.ret,slotsOf 111 [(12,.bK 1 99 N N false)],[.b [.ints .u8 32 leaf],.b [.rows 99 N (aq u)]]):=by kernel_rfl
theorem Xp (N:Nat) (u:Nat->aj) (leaf:List Int) (i:Int) (ws kd:List Int) (K:Nat) (ks:Nat->List Int) (pl:List Int) (k:Int):aZ (ah [12] 2 (cn prog (rP [(96,false)]) 60 0 ((atoms qE).drop 11) (ij 17 N u leaf i ws kd K ks pl k)))=(aa true !decide (((ws.length:Nat):Int)>0)):=by kernel_rfl
theorem ac6 (N:Nat) (u:Nat->aj) (leaf:List Int) (i:Int) (ws kd:List Int) (K:Nat) (ks:Nat->List Int) (pl:List Int) (k:Int):aA (ah [12] 2 (cn prog (rP [(96,true)]) 60 0 ((atoms qE).drop 11) (ij 17 N u leaf i ws kd K ks pl k)))=some (.ret,slotsOf 111 [(12,.bK 1 99 N N false)],[.b [.ints .u8 32 leaf],.b [.rows 99 N (prF u (i64.wrap (2*i)).toNat (iu u (ws.getD 0 0) (aN (ws.getD 0 0)+aH (ws.getD 0 0)-kd.getD 0 0)))]]):=by kernel_rfl
theorem Xq (N:Nat) (u:Nat->aj) (leaf:List Int) (i:Int) (ws kd:List Int) (K:Nat) (ks:Nat->List Int) (pl:List Int) (k:Int):aZ (ah [12] 2 (cn prog (rP [(96,true)]) 60 0 ((atoms qE).drop 11) (ij 17 N u leaf i ws kd K ks pl k)))=(aa (aa (aa (aa (aa (aa (aa (aa true (decide (((ws.length:Nat):Int)>0))) (aX 0 ws.length)) (decide (Int.toNat 0<ws.length))) (aX 0 kd.length)) (decide (Int.toNat 0<kd.length))) (aa true (bF N (aq u)&&decide (N<=71)&&decide (N=N)&&decide (N=N)&&p9 N (ag (aq u)) (ws.getD (Int.toNat 0) 0) (kd.getD (Int.toNat 0) 0)&&e9 N (ag (aq u))))) (aX (i64.wrap (2*i)) N)) (decide ((i64.wrap (2*i)).toNat<N))):=by kernel_rfl
theorem zo (u:Nat->aj) (X:Nat) (par:List Int):prF u X par=aq (c7 u X {u X with par:=par}):=by
 funext j
 unfold prF aq c7
 rw [AZ]
 by_cases h:j=X
 ·rw [Me h,aaM h];rfl
 ·rw [aam h,aaC h];rfl
def D7 (ks:Nat->List Int) (s:Nat):Nat->aj:=λk=>if k<s then fresh (ks k) Mk.cH else eX
def rm (t:Nat->aj) (T:Nat->Int×Int×Int) (ks:Nat->List Int) (M s:Nat):Nat->aj:=λk=>fresh (ks k) (if M-1-s<=k then gq t T ks M (M-1-k) else Mk.cH)
section
variable {N n j M:Nat} {t u:Nat->aj} {T:Nat->Int×Int×Int} {ks:Nat->List Int} {leaf:List Int}
theorem Cs (h:PW t u n j) (hn:n∈sizes) (hj:j<n) (hN:N=2*n-1) (hv:aO N=n) (gj:(t (2*j)).used=true) (hc:aM N t=true) (hK:KT T M n j) {k:Nat} (hk:k<M) {key par:List Int} (hf:u (T k).1.toNat=fresh key par):
  p9 N u (T k).1 (T k).2.1=true/\iu u (T k).1 (aN (T k).1+aH (T k).1-(T k).2.1)=AY t key par (T k).2.2:=by
 obtain ⟨a,ha,e⟩:=hK.way k hk
 rw [e] at hf ⊢
 obtain ⟨q,m⟩:=h.mark hn hj hN hv gj hc ha hf
 unfold GC at m
 rw [q] at m
 exact ⟨q,m⟩
theorem Xr (hk:∀k,k<M->kA (ks k)) (s:Nat):∀k,k<M->NU (rm t T ks M s k):=λk hk'=>by
 unfold rm
 split
 ·exact .inr ⟨_,_,rfl,hk k hk',tX ..⟩
 ·exact .inr ⟨_,_,rfl,hk k hk',Cl⟩
theorem Oz (hn:n∈sizes) (hj:j<n) (hN:N=2*n-1) (hK:KT T M n j) {k:Nat} (hk:k<M):aX (T k).1 N=true/\(T k).1.toNat<N:=by
 obtain ⟨a,ha,e⟩:=hK.way k hk
 have w:=ep hn hj ha
 rw [e]
 have:=w.lt;have:=w.nn
 exact ⟨mK w.nn (by dsimp only;omega),by dsimp only;omega⟩
theorem D8 (hT:cF N t) (hb:e9 N t=true) (hn:n∈sizes) (hj:j<n) (hN:N=2*n-1) (hv:aO N=n) (gj:(t (2*j)).used=true) (hc:aM N t=true) (hK:KT T M n j) (hM:M<=5) (hk:∀k,k<M->kA (ks k)) (hl:kA leaf):
  ai prog 55 [.aJ false 99 N (aq t),.int .i64 j,.ro false .i64 (iy (·.1) (M,T)),.ro false .i64 (iy (·.2.1) (M,T)),.agg [.ints .u8 32 leaf],.aJ false 32 M (gF ks)] [] (.aJ true 99 N (aq (K8 t n j M T ks leaf))) []:=by
 have hs:=bu hn
 have hle:=hT.le
 obtain ⟨h1,h2⟩:=tZ hT hb (show 2*j<N by omega)
 obtain ⟨u1,u2,u3⟩:=nP hn hj
 have ex:((2*j:Nat):Int)=2*(j:Int):=by omega
 rw [ex] at u1 u2 u3
 have w2:i64.wrap (2*(j:Int))=2*(j:Int):=cg (by omega) (by omega)
 have pB:=zg (n:=n) (t:=t) hn hj h1 h2
 have l1:(iy (·.1) (M,T)).length=M:=jI _ _
 have l2:(iy (·.2.1) (M,T)).length=M:=jI _ _
 have g1:∀k,k<M->(iy (·.1) (M,T)).getD k 0=(T k).1:=λk hk=>Cr (·.1) (M,T) hk
 have g2:∀k,k<M->(iy (·.2.1) (M,T)).getD k 0=(T k).2.1:=λk hk=>Cr (·.2.1) (M,T) hk
 have pl:(dW n (2*(j:Int)) (bt n)).length=bt n:=by simp [dW]
 generalize iy (·.1) (M,T)=ws at l1 g1 ⊢
 generalize iy (·.2.1) (M,T)=kd at l2 g2 ⊢
 refine ai.xx (v:=.bK 0 99 N N false) (aaf _) (λ_ _ x _ _ H hv=>H x hv) ?_
 refine ai.yN (v:=.bK 1 99 N N false) (h1:=[.b [.ints .u8 32 leaf],.b [.rows 99 N (aq (K8 t n j M T ks leaf))]]) [1] ?_ rfl
 refine ai.mk (vs:=[.bK 1 99 N N false]) func55 rfl (x:=.ret) (s:=⟨slotsOf 111 [(12,.bK 1 99 N N false)],[.b [.ints .u8 32 leaf],.b [.rows 99 N (aq (K8 t n j M T ks leaf))]],true⟩) ?_ (.inl rfl) (by kernel_rfl)
 have e:=acV N t leaf j ws kd M ks
 have e':=Xf N t leaf j ws kd M ks
 rw [hv,w2,aaa] at e
 rw [hv,w2] at e'
 -- the path made blank
 refine aV.bk (ig []) 60 4 _ 2 (aap _) (s1:=ij 15 N (bh t n (2*(j:Int)) 0) leaf j ws kd M ks (dW n (2*(j:Int)) (bt n)) ((0:Nat):Int)) _ e e' (by rw [show bF N (λi=>af (aq t i))=true from bq hT,Me hle, <-ex,G5 hn hj,Me (show ((N:Nat):Int)<72 by omega)];rfl) (by decide) rfl ?_
 refine aV.item 4 (by decide) (s1:=ij 15 N (bh t n (2*(j:Int)) (bt n)) leaf j ws kd M ks (dW n (2*(j:Int)) (bt n)) (bt n:Int)) (Tr.loop 0 (by kernel_rfl) (λk=>ij 15 N (bh t n (2*(j:Int)) k) leaf j ws kd M ks (dW n (2*(j:Int)) (bt n)) (k:Int)) (bt n) (λk hk=>?_) ?_) ?_
 ·have w:=ep hn hj hk
  have:=GS n
  have e:=acW N (bh t n (2*(j:Int)) k) leaf j ws kd M ks (dW n (2*(j:Int)) (bt n)) k
  have e':=Xg N (bh t n (2*(j:Int)) k) leaf j ws kd M ks (dW n (2*(j:Int)) (bt n)) k
  rw [aaa,nc hk,Cn,cq (by omega)] at e
  rw [aaa,nc hk,pl] at e'
  refine Tr.aR (ig _) 60 _ 2 (aap _) (s':=ij 15 N (bh t n (2*(j:Int)) (k+1)) leaf j ws kd M ks (dW n (2*(j:Int)) (bt n)) ((k+1:Nat):Int)) _ e e' ?_
  rw [fo hk,bf hk,Me hk,mK w.nn (by have:=w.lt;omega),Me (show (bG n (2*(j:Int)) k).toNat<N by have:=w.lt;have:=w.nn;omega)];rfl
 ·exact Tr.aR (ig _) 60 _ 2 (aap _) _ (acX N _ leaf j ws kd M ks _ _) (Xh N _ leaf j ws kd M ks _ _) (by rw [pl,fA (aaf _)];rfl)
 generalize dW n (2*(j:Int)) (bt n)=pp
 -- the keys
 have z2:bw (bh t n (2*(j:Int)) (bt n)) T (D7 ks 0) M=bh t n (2*(j:Int)) (bt n):=by
  rw [ec (g:=λ_=>eX) λk hk=>by unfold D7;rw [aaC (by omega)]]
  refine qA λk hk=>?_
  obtain ⟨a,ha,e⟩:=hK.way k hk
  rw [e]
  exact m9 _ a ha
 have e:=acY N (bh t n (2*(j:Int)) (bt n)) leaf j ws kd M ks pp (bt n)
 have e':=Xi N (bh t n (2*(j:Int)) (bt n)) leaf j ws kd M ks pp (bt n)
 rw [<-z2] at e e' ⊢
 refine aV.bk (ig []) 60 1 _ 2 (aap _) (l:=(atoms qE).drop 5) (s1:=ij 16 N (bw (bh t n (2*(j:Int)) (bt n)) T (D7 ks 0) M) leaf j ws kd M ks pp ((0:Nat):Int)) _ e e' rfl (by decide) rfl ?_
 refine aV.item 1 (by decide) (s1:=ij 16 N (bw (bh t n (2*(j:Int)) (bt n)) T (D7 ks M) M) leaf j ws kd M ks pp (M:Int)) (Tr.loop 2 (by kernel_rfl) (λk=>ij 16 N (bw (bh t n (2*(j:Int)) (bt n)) T (D7 ks k) M) leaf j ws kd M ks pp (k:Int)) M (λk hk=>?_) ?_) ?_
 ·obtain ⟨q1,q2⟩:=Oz hn hj hN hK hk
  have e:=acZ N (bw (bh t n (2*(j:Int)) (bt n)) T (D7 ks k) M) leaf j ws kd M ks pp k
  have e':=Xj N (bw (bh t n (2*(j:Int)) (bt n)) T (D7 ks k) M) leaf j ws kd M ks pp k
  have st:c7 (bw (bh t n (2*(j:Int)) (bt n)) T (D7 ks k) M) (T k).1.toNat (fresh (ks k) (List.replicate 32 0))=bw (bh t n (2*(j:Int)) (bt n)) T (D7 ks (k+1)) M:=by
   rw [pN hk hK.inj]
   refine ec λi hi=>?_
   unfold D7
   by_cases h:i=k
   ·subst h;rw [aaM rfl,aaM (by omega)]
   ·rw [aaC h]
    by_cases h':i<k
    ·rw [aaM h',aaM (by omega)]
    ·rw [aaC h',aaC (by omega)]
  rw [aaa,g1 k hk,tY,st,cq (by omega)] at e
  rw [aaa,g1 k hk,l1] at e'
  refine Tr.aR (ig _) 60 _ 2 (aap _) (s':=ij 16 N (bw (bh t n (2*(j:Int)) (bt n)) T (D7 ks (k+1)) M) leaf j ws kd M ks pp ((k+1:Nat):Int)) _ e e' ?_
  rw [fo hk,bf hk,Me hk,q1,Me q2];rfl
 ·exact Tr.aR (ig _) 60 _ 2 (aap _) _ (ac0 N _ leaf j ws kd M ks _ _) (Xk N _ leaf j ws kd M ks _ _) (by rw [l1,fA (aaf _)];rfl)
 -- the parents' marks
 have z3:bw (bh t n (2*(j:Int)) (bt n)) T (D7 ks M) M=bw (bh t n (2*(j:Int)) (bt n)) T (rm t T ks M 0) M:=ec λk hk=>by
  unfold D7 rm
  rw [aaM hk]
  by_cases h:M-1-0<=k
  ·rw [aaM h,show M-1-k=0 by omega];rfl
  ·rw [aaC h]
 have p3:∀s,PW t (bw (bh t n (2*(j:Int)) (bt n)) T (rm t T ks M s) M) n j:=λs=>AX hn hj pB hK (Xr hk s) M (aaf _)
 rw [z3]
 have e:=ac1 N (bw (bh t n (2*(j:Int)) (bt n)) T (rm t T ks M 0) M) leaf j ws kd M ks pp M
 have e':=Xl N (bw (bh t n (2*(j:Int)) (bt n)) T (rm t T ks M 0) M) leaf j ws kd M ks pp M
 rw [l1,cg (by omega) (by omega)] at e
 refine aV.bk (ig []) 60 1 _ 2 (aap _) (l:=(atoms qE).drop 7) (s1:=ij 17 N (bw (bh t n (2*(j:Int)) (bt n)) T (rm t T ks M 0) M) leaf j ws kd M ks pp ((M:Int)-2-((0:Nat):Int))) _ (by rw [show (M:Int)-2-((0:Nat):Int)=(M:Int)-2 by omega];exact e) e' rfl (by decide) rfl ?_
 refine aV.item 1 (by decide) (s1:=ij 17 N (bw (bh t n (2*(j:Int)) (bt n)) T (rm t T ks M (M-1)) M) leaf j ws kd M ks pp ((M:Int)-2-((M-1:Nat):Int))) (Tr.loop 4 (by kernel_rfl) (λs=>ij 17 N (bw (bh t n (2*(j:Int)) (bt n)) T (rm t T ks M s) M) leaf j ws kd M ks pp ((M:Int)-2-(s:Int))) (M-1) (λs hs'=>?_) ?_) ?_
 ·have ek:(M:Int)-2-(s:Int)=((M-2-s:Nat):Int):=by omega
  have ek1:i64.wrap (((M-2-s:Nat):Int)+1)=((M-1-s:Nat):Int):=by rw [cg (by omega) (by omega)];omega
  obtain ⟨q1,q2⟩:=Oz hn hj hN hK (show M-2-s<M by omega)
  have a1:=pO (B:=bh t n (2*(j:Int)) (bt n)) (f:=rm t T ks M s) (show M-1-s<M by omega) hK.inj
  have a2:=pO (B:=bh t n (2*(j:Int)) (bt n)) (f:=rm t T ks M s) (show M-2-s<M by omega) hK.inj
  rw [show rm t T ks M s (M-1-s)=fresh (ks (M-1-s)) (gq t T ks M s) by unfold rm;rw [aaM (aaf _),show M-1-(M-1-s)=s by omega]] at a1
  rw [show rm t T ks M s (M-2-s)=fresh (ks (M-2-s)) Mk.cH by unfold rm;rw [aaC (by omega)]] at a2
  obtain ⟨m1,m2⟩:=Cs (p3 s) hn hj hN hv gj hc hK (show M-1-s<M by omega) a1
  have st:c7 (bw (bh t n (2*(j:Int)) (bt n)) T (rm t T ks M s) M) (T (M-2-s)).1.toNat {bw (bh t n (2*(j:Int)) (bt n)) T (rm t T ks M s) M (T (M-2-s)).1.toNat with par:=gq t T ks M (s+1)}=bw (bh t n (2*(j:Int)) (bt n)) T (rm t T ks M (s+1)) M:=by
   rw [a2,pN (by omega) hK.inj]
   refine ec λi hi=>?_
   unfold rm
   by_cases h:i=M-2-s
   ·subst h;rw [aaM rfl,aaM (by omega),show M-1-(M-2-s)=s+1 by omega];rfl
   ·rw [aaC h]
    by_cases h':M-1-s<=i
    ·rw [aaM h',aaM (by omega)]
    ·rw [aaC h',aaC (by omega)]
  have m2:iu (bw (bh t n (2*(j:Int)) (bt n)) T (rm t T ks M s) M) (T (M-1-s)).1 (aN (T (M-1-s)).1+aH (T (M-1-s)).1-(T (M-1-s)).2.1)=gq t T ks M (s+1):=m2
  have e:=ac2 N (bw (bh t n (2*(j:Int)) (bt n)) T (rm t T ks M s) M) leaf j ws kd M ks pp ((M-2-s:Nat):Int)
  have e':=Xm N (bw (bh t n (2*(j:Int)) (bt n)) T (rm t T ks M s) M) leaf j ws kd M ks pp ((M-2-s:Nat):Int)
  rw [aaa,ek1,aaa,g1 _ (show M-2-s<M by omega),g1 _ (show M-1-s<M by omega),g2 _ (show M-1-s<M by omega),m2,zo,st,cg (by omega) (by omega),show ((M-2-s:Nat):Int)-1=(M:Int)-2-((s+1:Nat):Int) by omega] at e
  rw [aaa,ek1,aaa,g1 _ (show M-2-s<M by omega),g1 _ (show M-1-s<M by omega),g2 _ (show M-1-s<M by omega),l1,l2,ov] at e'
  rw [ek]
  refine Tr.aR (ig _) 60 _ 2 (aap _) (s':=ij 17 N (bw (bh t n (2*(j:Int)) (bt n)) T (rm t T ks M (s+1)) M) leaf j ws kd M ks pp ((M:Int)-2-((s+1:Nat):Int))) _ e e' ?_
  rw [Me (show (((M-2-s:Nat):Int)>=0) by omega),bf (show M-2-s<M by omega),bf (show M-1-s<M by omega),Me (show M-2-s<M by omega),Me (show M-1-s<M by omega),bq ((p3 s).tok hn hj hN hT),Me hle,Me (Eq.refl N),m1,(p3 s).byt hn hj hN hb,q1,Me q2]
  rfl
 ·exact Tr.aR (ig _) 60 _ 2 (aap _) _ (ac3 N _ leaf j ws kd M ks _ _) (Xn N _ leaf j ws kd M ks _ _) (by rw [aam (show ¬((M:Int)-2-((M-1:Nat):Int)>=0) by omega)];rfl)
 -- the leaf
 have z4:bw (bh t n (2*(j:Int)) (bt n)) T (rm t T ks M (M-1)) M=ou t n j M T ks M:=ec λk hk=>by
  unfold rm Cm
  rw [aaM (by omega),aaM (by omega)]
 have pR:=xy (t:=t) hn hj hK hk h1 h2 M
 have hi:2*j<N:=by omega
 have en:(2*(j:Int)).toNat=2*j:=by omega
 rw [z4]
 have e:=ac4 N (ou t n j M T ks M) leaf j ws kd M ks pp ((M:Int)-2-((M-1:Nat):Int))
 have e':=Xo N (ou t n j M T ks M) leaf j ws kd M ks pp ((M:Int)-2-((M-1:Nat):Int))
 rw [w2,en,zh,pP hn hj hK] at e
 rw [w2,en, <-ex] at e'
 have pL:=pR.OA hn hj hl Cl
 rw [pP hn hj hK] at pL
 refine aV.bk (ig []) 60 2 _ 2 (aap _) (l:=(atoms qE).drop 9) (s1:=ij 17 N (c7 (ou t n j M T ks M) (2*j) {t (2*j) with key:=leaf,par:=Mk.cH}) leaf j ws kd M ks pp ((M:Int)-2-((M-1:Nat):Int))) _ e e' (by rw [bf hi,Me hi];rfl) (by decide) rfl ?_
 rcases Nat.eq_zero_or_pos M with h0|h0
 ·subst h0
  exact aV.og (ig _) 60 _ 2 (aap _) _ (ac5 N (c7 (ou t n j 0 T ks 0) (2*j) {t (2*j) with key:=leaf,par:=Mk.cH}) leaf j ws kd 0 ks pp _) (Xp N _ leaf j ws kd 0 ks pp _) (by rw [l1];rfl) (by intro q;cases q)
 ·obtain ⟨a,ha,eT⟩:=hK.way 0 h0
  have w:=ep hn hj ha
  have a0:c7 (ou t n j M T ks M) (2*j) {t (2*j) with key:=leaf,par:=Mk.cH} (T 0).1.toNat=fresh (ks 0) (gq t T ks M (M-1)):=by
   unfold c7
   rw [aaC (λq=>by rw [eT] at q;have:=w.GX;dsimp only at q;omega)]
   refine (pO (f:=Cm t T ks M M) h0 hK.inj).trans ?_
   unfold Cm
   rw [aaM (by omega),show M-1-0=M-1 by omega]
  obtain ⟨m1,m2⟩:=Cs pL hn hj hN hv gj hc hK h0 a0
  have m3:AY t (ks 0) (gq t T ks M (M-1)) (T 0).2.2=gq t T ks M M:=by
   obtain ⟨m,rfl⟩:∃m,M=m+1:=⟨M-1,by omega⟩
   show _=AY t (ks (m+1-1-m)) (gq t T ks (m+1) m) (T (m+1-1-m)).2.2
   rw [show m+1-1-m=0 by omega,show m+1-1=m by omega]
  rw [m3] at m2
  have e:=ac6 N (c7 (ou t n j M T ks M) (2*j) {t (2*j) with key:=leaf,par:=Mk.cH}) leaf j ws kd M ks pp ((M:Int)-2-((M-1:Nat):Int))
  have e':=Xq N (c7 (ou t n j M T ks M) (2*j) {t (2*j) with key:=leaf,par:=Mk.cH}) leaf j ws kd M ks pp ((M:Int)-2-((M-1:Nat):Int))
  rw [g1 0 h0,g2 0 h0,m2,w2,en,zo,vO,show c7 (ou t n j M T ks M) (2*j) {t (2*j) with key:=leaf,par:=Mk.cH} (2*j)={t (2*j) with key:=leaf,par:=Mk.cH} by unfold c7;rw [aaM rfl]] at e
  rw [l1,l2,w2,en, <-ex,show Int.toNat 0=0 from rfl,g1 0 h0,g2 0 h0,ov] at e'
  refine aV.og (ig _) 60 _ 2 (aap _) _ e e' ?_ (by intro q;cases q)
  rw [Me (show ((M:Nat):Int)>0 by omega),show aX 0 M=true from bf (i:=0) h0,Me h0,bq (pL.tok hn hj hN hT),Me hle,Me (Eq.refl N),m1,pL.byt hn hj hN hb,bf hi,Me hi]
  rfl
end
end Go.Proofs.YthlnlcijnoadcaaGreatDoor.Pa
