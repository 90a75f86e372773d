/- This file proves the contracts of the reference's Sibling, Path, Used and Way. Conditions: trees of 71 nodes at most. -/
import Derived.Test.YthlnlcijnoadcaaGreatDoorGPaE
import Derived.Test.YthlnlcijnoadcaaGreatDoorGTsN
noncomputable section
open Go.Proofs.Tryz
open Go.IntKind (i64 u8 u64 u32)
set_option linter.all false
set_option maxRecDepth 100000
namespace Go.Proofs.YthlnlcijnoadcaaGreatDoor.Pa
open Go Go.Sy Tr Mk
def QN:bO:=mk (P:=prog) [zl,jh] []
theorem Cp:ak prog QN:=az _ aL.nil _ _
def QO:Option (SV×List Blk×Bool)->Option (List Int)
 |some (.nl (.slice none 0 0),[],true)=>some []
 |some (.sl b o i z n c ex wh,h,true)=>match P0 [b] (.sl b o i z n c ex wh) h with
  |some (.sl 0 0 0 1 n' c' _ _,[.b [.ints .i64 m xs]])=>bif Nat.beq m xs.length&&Nat.beq n' m&&Nat.beq c' m then some xs else none
  |_=>none
 |_=>none
def dW (n x:Int) (k:Nat):List Int:=(List.range k).map (bG n x)
theorem W8:∀l:List SV,P6 l l
 | []=>trivial
 |_::l=>⟨VE.refl _,W8 l⟩
theorem La {C:bO} (hC:ak prog C) {f:FuncId} {fn:Func} (hf:prog.funcs[f]? =some fn) {args:List SV} {l:List Int} {n:Nat} (hb:fn.body.isSome=true) (h:QO (aG prog C n fn args [])=some l):ai prog f args [] (.ro true .i64 l) []:=by
 unfold QO at h
 split at h
 ·rename_i e
  cases h
  exact ai.conv (ai.bg hC hf e) (W8 args) trivial (VE.nN true .i64) trivial
 ·rename_i b o i z m c ex wh hh e
  split at h
  ·rename_i n' c' ex' wh' m' xs e2
   cases hq:Nat.beq m' xs.length&&Nat.beq n' m'&&Nat.beq c' m' with
   |false=>rw [hq] at h;cases h
   |true=>
    rw [hq] at h
    cases h
    simp only [aac] at hq
    obtain ⟨⟨h1,h2⟩,h3⟩:=hq
    have h1:=aaA h1
    have h2:=aaA h2
    have h3:=aaA h3
    subst h2;subst h3
    exact ai.jG (ai.yN [b] (ai.bg hC hf e) e2) h1.symm
  ·cases h
 ·cases h
theorem G3:(sizes.all λn=>(List.range (2*n-1)).all λx=>x6 (bZ x n) (aG prog QN 60 f97 [.int .i64 x,.int .i64 n] []))=true:=by kernel_rfl
theorem Lb {x n:Int} (h:aQ x n=true):ai prog 97 [.int .i64 x,.int .i64 n] [] (.int .i64 (bZ x n)) []:=by
 obtain ⟨m,hm,y,rfl,rfl,hy⟩:=eR h
 have h:=aah.1 (aah.1 G3 m hm) y (aan.2 hy)
 exact aI Cp 60 func97 (r8 h) rfl rfl
theorem D6:(sizes.all λn=>(List.range n).all λx=>decide (QO (aG prog QN 60 f96 [.int .i64 ((2*x:Nat):Int),.int .i64 n] [])=some (dW n ((2*x:Nat):Int) (bt n))))=true:=by kernel_rfl
theorem G4 {n j:Nat} (hn:n∈sizes) (hj:j<n):ai prog 96 [.int .i64 ((2*j:Nat):Int),.int .i64 n] [] (.ro true .i64 (dW n ((2*j:Nat):Int) (bt n))) []:=
 La Cp func96 rfl (abB (aah.1 (aah.1 D6 n hn) j (aan.2 hj)))
def W9:Entry prog:=.val 97 _ func97 (by decide) rfl false 0 (λvs=>match vs with
 | [.int .i64 x,.int .i64 n]=>some (.int .i64 (bZ x n),[],aQ x n)
 |_=>none) λvs v new e=>by
 split at e
 ·simp only [No,aae] at e
  obtain ⟨rfl,rfl,h⟩:=e
  exact Lb h
 ·cases e
def Xa (x n:Int):Bool:=sizes.any λm=>decide (n=m)&&decide (0<=x)&&decide (x<2*m)&&decide (x.toNat%2=0)
theorem Lc {x n:Int} (h:Xa x n=true):∃m∈sizes,∃j:Nat,n=(m:Int)/\x=((2*j:Nat):Int)/\j<m:=by
 obtain ⟨m,hm,h⟩:=aaT.1 h
 simp only [aac,aab] at h
 exact ⟨m,hm,x.toNat/2,by omega,by omega,by omega⟩
theorem G5 {n j:Nat} (hn:n∈sizes) (hj:j<n):Xa ((2*j:Nat):Int) n=true:=aaT.2 ⟨n,hn,by simp only [aac,aab];exact ⟨⟨⟨trivial,by omega⟩,by omega⟩,by omega⟩⟩
def G6:Entry prog:=.val 96 _ func96 (by decide) rfl false 0 (λvs=>match vs with
 | [.int .i64 x,.int .i64 n]=>some (.ro true .i64 (dW n x (bt n.toNat)),[],Xa x n)
 |_=>none) λvs v new e=>by
 split at e
 ·simp only [No,aae] at e
  obtain ⟨rfl,rfl,h⟩:=e
  obtain ⟨m,hm,j,rfl,rfl,hj⟩:=Lc h
  rw [aaa]
  exact G4 hm hj
 ·cases e
theorem acL (N:Nat) (t:Nat->aj) (i:Int):(aG prog (oG [(7,false),(11,false),(18,false)]) 60 f95 [.aJ false 99 N (aq t),.int .i64 i] []).map (λx=>(x.1,x.2.2))=some (.bool false,aa true !decide (i>=0)):=by kernel_rfl
theorem acM (N:Nat) (t:Nat->aj) (i:Int):(aG prog (oG [(7,true),(11,false),(18,false)]) 60 f95 [.aJ false 99 N (aq t),.int .i64 i] []).map (λx=>(x.1,x.2.2))=some (.bool false,aa (aa true (decide (i>=0))) !decide (i<32)):=by kernel_rfl
theorem acN (N:Nat) (t:Nat->aj) (i:Int):(aG prog (oG [(7,true),(11,true),(18,false)]) 60 f95 [.aJ false 99 N (aq t),.int .i64 i] []).map (λx=>(x.1,x.2.2))=some (.bool false,aa (aa (aa true (decide (i>=0))) (decide (i<32))) !decide (i64.wrap (2*i)<((N:Nat):Int))):=by kernel_rfl
theorem acO (N:Nat) (t:Nat->aj) (i:Int):(aG prog (oG [(7,true),(11,true),(18,true)]) 60 f95 [.aJ false 99 N (aq t),.int .i64 i] []).map (λx=>(x.1,x.2.2))=some (.bool (t (i64.wrap (2*i)).toNat).used,aa (aa (aa (aa (aa true (decide (i>=0))) (decide (i<32))) (decide (i64.wrap (2*i)<((N:Nat):Int)))) (aX (i64.wrap (2*i)) N)) (true&&(decide ((i64.wrap (2*i)).toNat<N)&&true))):=by kernel_rfl
theorem ua {N:Nat} {t:Nat->aj} {i:Int}:ai prog 95 [.aJ false 99 N (aq t),.int .i64 i] [] (.bool (rL N t i)) []:=by
 unfold rL
 by_cases h1:i>=0
 ·by_cases h2:i<32
  ·have w:i64.wrap (2*i)=2*i:=cg (by omega) (by omega)
   by_cases h3:2*i<((N:Nat):Int)
   ·have e:=acO N t i
    rw [w] at e
    rw [Me h1,Me h2,Me h3,abb,abb,abb]
    refine aI (dN _) 60 func95 e ?_ rfl
    obtain ⟨y,rfl⟩:=aaB h1
    rw [Me h1,Me h2,Me h3,show 2*((y:Nat):Int)=((2*y:Nat):Int) by omega,bf (show 2*y<N by omega),aaa,Me (show 2*y<N by omega)]
    rfl
   ·rw [aam h3,acC,adw]
    exact aI (dN _) 60 func95 (acN N t i) (by rw [w,Me h1,Me h2,aam h3];rfl) rfl
  ·rw [aam h2,acC,adw,adw]
   exact aI (dN _) 60 func95 (acM N t i) (by rw [Me h1,aam h2];rfl) rfl
 ·rw [aam h1]
  exact aI (dN _) 60 func95 (acL N t i) (by rw [aam h1];rfl) rfl
def A0 (b:Bool):Entry prog:=.val 95 _ func95 (by decide) rfl true 0 (λvs=>match vs with
 | [.aJ false 99 N g,.int .i64 i]=>some (.bool b,[],bF N g&&(rL N (ag g) i==b))
 |_=>none) λvs v new e=>by
 split at e
 ·simp only [No,aae,aac,aaS] at e
  obtain ⟨rfl,rfl,h1,h2⟩:=e
  rw [<-h2]
  exact ai.conv ua ⟨VE.tree h1,VE.refl _,trivial⟩ trivial (VE.refl _) trivial
 ·cases e
def G7 (g u:Bool) (l:List (Nat×Bool)):bO:=mk (P:=prog) [Ow g,A0 u,uc,G6,W9,Ox 8 (zm 8)] [] (uT l)
theorem ow (g u:Bool) (l:List (Nat×Bool)):ak prog (G7 g u l):=az _ aL.nil _ _
def Oy:Code:=aP f54
def iy (f:Int×Int×Int->Int) (q:Nat×(Nat->Int×Int×Int)):List Int:=(List.range q.1).map λk=>f (q.2 k)
def Cq (N:Nat) (t:Nat->aj) (n c:Int) (pl:List Int) (m:Nat) (a b d:List Int) (k:Int):St:=⟨slotsOf 67 [(0,.aJ false 99 N (aq t)),(8,.int .i64 n),(9,.sl 0 0 0 1 m m false true),(10,.sl 1 0 0 1 m m false true),(11,.sl 2 0 0 1 m m false true),(12,.int .i64 c),(13,.ro true .i64 pl),(14,.int .i64 k)],[.b [.ints .i64 m a],.b [.ints .i64 m b],.b [.ints .i64 m d]],true⟩
abbrev Ld (n:Int):SV:=.bC [cT,cT,cT,.int .i64 n]
theorem acP (N:Nat) (t:Nat->aj) (i:Int):(aG prog (G7 false true []) 60 f54 [.aJ false 99 N (aq t),.int .i64 i] []).map (λx=>(x.1,x.2.2))=some (Ld 3,aa true (aa true ((bF N λi=>af (aq t i))&&decide (N<=71)&&cN N (ag λi=>af (aq t i))==false))):=by kernel_rfl
theorem acQ (N:Nat) (t:Nat->aj) (i:Int):(aG prog (G7 true false []) 60 f54 [.aJ false 99 N (aq t),.int .i64 i] []).map (λx=>(x.1,x.2.2))=some (Ld 9,aa (aa true (aa true ((bF N λi=>af (aq t i))&&decide (N<=71)&&cN N (ag λi=>af (aq t i))==true))) (aa true ((bF N λi=>af (aq t i))&&rL N (ag λi=>af (aq t i)) i==false))):=by kernel_rfl
theorem acR (N:Nat) (t:Nat->aj) (i:Int):aA (ah [0,8,9,10,11,12,13,14] 0 ((aE prog (G7 true true []) 60 0 12 (atoms Oy) ⟨aD f54.ntmps [.aJ false 99 N (aq t),.int .i64 i],[],true⟩).map λs=>(Exit.normal,s)))=some (.normal,slotsOf 67 [(0,.aJ false 99 N (aq t)),(8,.int .i64 (aO N)),(9,cT),(10,cT),(11,cT),(12,.int .i64 (i64.wrap (2*i))),(13,.ro true .i64 (dW (aO N) (i64.wrap (2*i)) (bt (aO N).toNat))),(14,.int .i64 0)],[]):=by kernel_rfl
theorem Xb (N:Nat) (t:Nat->aj) (i:Int):aZ (ah [0,8,9,10,11,12,13,14] 0 ((aE prog (G7 true true []) 60 0 12 (atoms Oy) ⟨aD f54.ntmps [.aJ false 99 N (aq t),.int .i64 i],[],true⟩).map λs=>(Exit.normal,s)))=(aa (aa (aa (aa true (aa true ((bF N λi=>af (aq t i))&&decide (N<=71)&&cN N (ag λi=>af (aq t i))==true))) (aa true ((bF N λi=>af (aq t i))&&rL N (ag λi=>af (aq t i)) i==true))) (aa true (true&&decide (((N:Nat):Int)<72)))) (aa true (Xa (i64.wrap (2*i)) (aO ((N:Nat):Int))))):=by kernel_rfl
theorem acS (N:Nat) (t:Nat->aj) (n c:Int) (pl:List Int) (m:Nat) (a b d:List Int) (k:Int):aA (ah [0,8,9,10,11,12,13,14] 3 (exec prog (G7 true true [(34,true),(44,false)]) 60 0 (inner (inner (au 12 Oy))) (Cq N t n c pl m a b d k)))=some (.normal,(Cq N t n (pl.getD k.toNat 0) pl m a b d (i64.wrap (k+1))).t,(Cq N t n c pl m a b d k).h):=by kernel_rfl
theorem Xc (N:Nat) (t:Nat->aj) (n c:Int) (pl:List Int) (m:Nat) (a b d:List Int) (k:Int):aZ (ah [0,8,9,10,11,12,13,14] 3 (exec prog (G7 true true [(34,true),(44,false)]) 60 0 (inner (inner (au 12 Oy))) (Cq N t n c pl m a b d k)))=(aa (aa (aa (aa (aa (aa true (decide (k<((pl.length:Nat):Int)))) (aa true (aQ c n))) (aa true ((bF N λi=>af (aq t i))&&decide (N<=71)&&eM N (ag λi=>af (aq t i)) (bZ c n) 8))) !decide ((((aW (ag λi=>af (aq t i)) (bZ c n)).length:Nat):Int)>0)) (aX k pl.length)) (decide (k.toNat<pl.length))):=by kernel_rfl
theorem acT (N:Nat) (t:Nat->aj) (n c:Int) (pl:List Int) (m:Nat) (a b d:List Int) (k:Int):aA (ah [0,8,9,10,11,12,13,14] 3 (exec prog (G7 true true [(34,true),(44,true)]) 60 0 (inner (inner (au 12 Oy))) (Cq N t n c pl m a b d k)))=some (.normal,(Cq N t n (pl.getD k.toNat 0) pl (m+1) a b d (i64.wrap (k+1))).t,[.b [.ints .i64 (m+1) (a++[pl.getD k.toNat 0])],.b [.ints .i64 (m+1) (b++[c])],.b [.ints .i64 (m+1) (d++[bZ c n])]]):=by kernel_rfl
theorem Xd (N:Nat) (t:Nat->aj) (n c:Int) (pl:List Int) (m:Nat) (a b d:List Int) (k:Int):aZ (ah [0,8,9,10,11,12,13,14] 3 (exec prog (G7 true true [(34,true),(44,true)]) 60 0 (inner (inner (au 12 Oy))) (Cq N t n c pl m a b d k)))=(aa (aa (aa (aa (aa (aa (aa (aa (aa (aa (aa true (decide (k<((pl.length:Nat):Int)))) (aa true (aQ c n))) (aa true ((bF N λi=>af (aq t i))&&decide (N<=71)&&eM N (ag λi=>af (aq t i)) (bZ c n) 8))) (decide ((((aW (ag λi=>af (aq t i)) (bZ c n)).length:Nat):Int)>0))) (aX k pl.length)) (decide (k.toNat<pl.length))) (aa (aa (aa true (decide (a.length=m)&&(decide (m<=m)&&true))) (decide (a.length=m))) (decide (m+1<=2^38)))) (aa (aa (aa true (decide (b.length=m)&&(decide (m<=m)&&true))) (decide (b.length=m))) (decide (m+1<=2^38)))) (aa (aa (aa true (decide (d.length=m)&&(decide (m<=m)&&true))) (decide (d.length=m))) (decide (m+1<=2^38)))) (aX k pl.length)) (decide (k.toNat<pl.length))):=by kernel_rfl
theorem acU (N:Nat) (t:Nat->aj) (n c:Int) (pl:List Int) (m:Nat) (a b d:List Int) (k:Int):aA (ah [9,10,11] 3 (exec prog (G7 true true [(34,false)]) 60 0 (inner (inner (au 12 Oy))) (Cq N t n c pl m a b d k)))=some (.exit 0,slotsOf 67 [(9,.sl 0 0 0 1 m m false true),(10,.sl 1 0 0 1 m m false true),(11,.sl 2 0 0 1 m m false true)],(Cq N t n c pl m a b d k).h):=by kernel_rfl
theorem Xe (N:Nat) (t:Nat->aj) (n c:Int) (pl:List Int) (m:Nat) (a b d:List Int) (k:Int):aZ (ah [9,10,11] 3 (exec prog (G7 true true [(34,false)]) 60 0 (inner (inner (au 12 Oy))) (Cq N t n c pl m a b d k)))=(aa true !decide (k<((pl.length:Nat):Int))):=by kernel_rfl
theorem jI (f:Int×Int×Int->Int) (q:Nat×(Nat->Int×Int×Int)):(iy f q).length=q.1:=by simp [iy]
theorem A1 (f:Int×Int×Int->Int) (m:Nat) (T:Nat->Int×Int×Int) (w:Int×Int×Int):iy f (m+1,xw m T w)=iy f (m,T)++[f w]:=by
 unfold iy
 rw [List.range_succ,List.map_append]
 congr 1
 ·refine List.map_congr_left λk hk=>?_
  simp only [xw,GR,Me (aan.1 hk)];rfl
 ·simp only [List.map_cons,List.map_nil,xw,GR,aam (Nat.lt_irrefl m)];rfl
theorem Cr (f:Int×Int×Int->Int) (q:Nat×(Nat->Int×Int×Int)) {k:Nat} (hk:k<q.1):(iy f q).getD k 0=f (q.2 k):=by
 rw [bY (by rw [jI];exact hk)]
 simp [iy]
theorem nc {n x:Int} {m k:Nat} (h:k<m):(dW n x m).getD k 0=bG n x k:=by
 rw [bY (by simp [dW];exact h)]
 simp [dW]
theorem G8 {f:FuncId} {args:List SV} {m:Nat} {a b c:List Int} {e:Int} (ha:a.length=m) (hb:b.length=m) (hc:c.length=m) (k:ai prog f args [] (.bC [.sl 0 0 0 1 m m false true,.sl 1 0 0 1 m m false true,.sl 2 0 0 1 m m false true,.int .i64 e]) [.b [.ints .i64 m a],.b [.ints .i64 m b],.b [.ints .i64 m c]]):ai prog f args [] (.bC [.ro true .i64 a,.ro true .i64 b,.ro true .i64 c,.int .i64 e]) []:=by
 have k1:=k.fz (u:=.bC [.sl 0 0 0 1 m m false true,.sl 1 0 0 1 m m false true,.ro true .i64 c,.int .i64 e]) (h2:=[.b [.ints .i64 m a],.b [.ints .i64 m b]]) 2 2 (aap _) (aap _) rfl (by simp [lW,lQ,lR,xh,aC,hc])
 have k2:=k1.fz (u:=.bC [.sl 0 0 0 1 m m false true,.ro true .i64 b,.ro true .i64 c,.int .i64 e]) (h2:=[.b [.ints .i64 m a]]) 1 1 (aap _) (aap _) rfl (by simp [lW,lQ,lR,xh,aC,hb])
 exact k2.fz (u:=.bC [.ro true .i64 a,.ro true .i64 b,.ro true .i64 c,.int .i64 e]) (h2:=[]) 0 0 (aap _) (aap _) rfl (by simp [lW,lQ,lR,xh,aC,ha])
section
variable {N n j:Nat} {t:Nat->aj}
theorem Lf (hT:cF N t) (hg:cN N t=true) (hc:aM N t=true) (hu:rL N t j=true) (hn:n∈sizes) (hj:j<n) (hN:N=2*n-1) (hv:aO N=n):
  ai prog 54 [.aJ false 99 N (aq t),.int .i64 j] [] (.bC [.ro true .i64 (iy (·.1) (bT N t n (2*(j:Int)) (bt n))),.ro true .i64 (iy (·.2.1) (bT N t n (2*(j:Int)) (bt n))),.ro true .i64 (iy (·.2.2) (bT N t n (2*(j:Int)) (bt n))),.int .i64 0]) []:=by
 have hs:=bu hn
 have hle:=hT.le
 have hok:bF N (λi=>af (aq t i))=true:=bq hT
 have ht:(ag λi=>af (aq t i))=t:=rfl
 obtain ⟨u1,u2,u3⟩:=nP hn hj
 have w2:i64.wrap (2*(j:Int))=2*(j:Int):=cg (by omega) (by omega)
 have ex:((2*j:Nat):Int)=2*(j:Int):=by omega
 rw [ex] at u1 u2 u3
 have pl:(dW n (2*(j:Int)) (bt n)).length=bt n:=by simp [dW]
 have key:ai prog 54 [.aJ false 99 N (aq t),.int .i64 j] [] (.bC [.sl 0 0 0 1 (bT N t n (2*(j:Int)) (bt n)).1 (bT N t n (2*(j:Int)) (bt n)).1 false true,.sl 1 0 0 1 (bT N t n (2*(j:Int)) (bt n)).1 (bT N t n (2*(j:Int)) (bt n)).1 false true,.sl 2 0 0 1 (bT N t n (2*(j:Int)) (bt n)).1 (bT N t n (2*(j:Int)) (bt n)).1 false true,.int .i64 0]) [.b [.ints .i64 (bT N t n (2*(j:Int)) (bt n)).1 (iy (·.1) (bT N t n (2*(j:Int)) (bt n)))],.b [.ints .i64 (bT N t n (2*(j:Int)) (bt n)).1 (iy (·.2.1) (bT N t n (2*(j:Int)) (bt n)))],.b [.ints .i64 (bT N t n (2*(j:Int)) (bt n)).1 (iy (·.2.2) (bT N t n (2*(j:Int)) (bt n)))]]:=by
  refine ai.toEnd (h:=[]) func54 rfl 12 0 (λk=>Cq N t n (de n (2*(j:Int)) k) (dW n (2*(j:Int)) (bt n)) (bT N t n (2*(j:Int)) k).1 (iy (·.1) (bT N t n (2*(j:Int)) k)) (iy (·.2.1) (bT N t n (2*(j:Int)) k)) (iy (·.2.2) (bT N t n (2*(j:Int)) k)) (k:Int)) (bt n)
   (λy s' g=>?_) (by decide) (by kernel_rfl) (λk hk=>?_)
   (sE:=⟨slotsOf 67 [(9,.sl 0 0 0 1 (bT N t n (2*(j:Int)) (bt n)).1 (bT N t n (2*(j:Int)) (bt n)).1 false true),(10,.sl 1 0 0 1 (bT N t n (2*(j:Int)) (bt n)).1 (bT N t n (2*(j:Int)) (bt n)).1 false true),(11,.sl 2 0 0 1 (bT N t n (2*(j:Int)) (bt n)).1 (bT N t n (2*(j:Int)) (bt n)).1 false true)],[.b [.ints .i64 (bT N t n (2*(j:Int)) (bt n)).1 (iy (·.1) (bT N t n (2*(j:Int)) (bt n)))],.b [.ints .i64 (bT N t n (2*(j:Int)) (bt n)).1 (iy (·.2.1) (bT N t n (2*(j:Int)) (bt n)))],.b [.ints .i64 (bT N t n (2*(j:Int)) (bt n)).1 (iy (·.2.2) (bT N t n (2*(j:Int)) (bt n)))]],true⟩)
   (s':=⟨slotsOf 67 [(4,.sl 0 0 0 1 (bT N t n (2*(j:Int)) (bt n)).1 (bT N t n (2*(j:Int)) (bt n)).1 false true),(5,.sl 1 0 0 1 (bT N t n (2*(j:Int)) (bt n)).1 (bT N t n (2*(j:Int)) (bt n)).1 false true),(6,.sl 2 0 0 1 (bT N t n (2*(j:Int)) (bt n)).1 (bT N t n (2*(j:Int)) (bt n)).1 false true),(7,.int .i64 0),(9,.sl 0 0 0 1 (bT N t n (2*(j:Int)) (bt n)).1 (bT N t n (2*(j:Int)) (bt n)).1 false true),(10,.sl 1 0 0 1 (bT N t n (2*(j:Int)) (bt n)).1 (bT N t n (2*(j:Int)) (bt n)).1 false true),(11,.sl 2 0 0 1 (bT N t n (2*(j:Int)) (bt n)).1 (bT N t n (2*(j:Int)) (bt n)).1 false true),(64,.sl 0 0 0 1 (bT N t n (2*(j:Int)) (bt n)).1 (bT N t n (2*(j:Int)) (bt n)).1 false true),(65,.sl 1 0 0 1 (bT N t n (2*(j:Int)) (bt n)).1 (bT N t n (2*(j:Int)) (bt n)).1 false true),(66,.sl 2 0 0 1 (bT N t n (2*(j:Int)) (bt n)).1 (bT N t n (2*(j:Int)) (bt n)).1 false true)],[.b [.ints .i64 (bT N t n (2*(j:Int)) (bt n)).1 (iy (·.1) (bT N t n (2*(j:Int)) (bt n)))],.b [.ints .i64 (bT N t n (2*(j:Int)) (bt n)).1 (iy (·.2.1) (bT N t n (2*(j:Int)) (bt n)))],.b [.ints .i64 (bT N t n (2*(j:Int)) (bt n)).1 (iy (·.2.2) (bT N t n (2*(j:Int)) (bt n)))]],true⟩)
   (x:=.ret) (v:=[.sl 0 0 0 1 (bT N t n (2*(j:Int)) (bt n)).1 (bT N t n (2*(j:Int)) (bt n)).1 false true,.sl 1 0 0 1 (bT N t n (2*(j:Int)) (bt n)).1 (bT N t n (2*(j:Int)) (bt n)).1 false true,.sl 2 0 0 1 (bT N t n (2*(j:Int)) (bt n)).1 (bT N t n (2*(j:Int)) (bt n)).1 false true,.int .i64 0]) ?_ (aV.rest (ow true true []) 60 (by kernel_rfl) rfl) (.inl rfl) (by kernel_rfl)
  ·have e:=acR N t j
   rw [hv,w2,aaa] at e
   refine aV.bk (ow true true []) 60 12 _ 0 (aap _) (s1:=⟨slotsOf 67 [(0,.aJ false 99 N (aq t)),(8,.int .i64 n),(9,cT),(10,cT),(11,cT),(12,.int .i64 (2*(j:Int))),(13,.ro true .i64 (dW n (2*(j:Int)) (bt n))),(14,.int .i64 0)],[],true⟩) _ e (Xb N t j) (by rw [ht,hok,hg,hu,Me hle,hv,w2, <-ex,G5 hn hj,Me (show ((N:Nat):Int)<72 by omega)];rfl) (by decide) rfl ?_
   refine aV.pre (aV.pre (aV.pre g (bE.mF (o':=true) 11 rfl .i64 false true) ?_) (bE.mF (o':=true) 10 rfl .i64 false true) ?_) (bE.mF (o':=true) 9 rfl .i64 false true) ?_<;>(intro q;cases q)
  ·obtain ⟨g1,g2⟩:=u1 k hk
   have hcn:Tr.aQ (de n (2*(j:Int)) k) n=true:=by
    cases k with
    |zero=>exact u3
    |succ k=>exact (u1 k (by omega)).1
   have w:=ep hn hj hk
   have s1:bZ (de n (2*(j:Int)) k) n<(N:Int):=by rw [hN];exact w.s1
   have hro:eM N t (bZ (de n (2*(j:Int)) k) n) 8=true:=zn hT hc w.s0 s1
   have hrv:rM N t (bZ (de n (2*(j:Int)) k) n)=aW t (bZ (de n (2*(j:Int)) k) n):=by unfold rM;rw [hc,Me w.s0,Me s1];rfl
   have hq:bT N t n (2*(j:Int)) (k+1)=bif DZ N t n (2*(j:Int)) k then ((bT N t n (2*(j:Int)) k).1+1,xw (bT N t n (2*(j:Int)) k).1 (bT N t n (2*(j:Int)) k).2 (bG n (2*(j:Int)) k,de n (2*(j:Int)) k,bZ (de n (2*(j:Int)) k) n)) else bT N t n (2*(j:Int)) k:=rfl
   have h5:=(GQ (N:=N) (t:=t) hn hj k (by omega)).1
   have:=GS n
   rw [hq]
   show Tr _ _ _ _ _ _ (Cq N t n (bG n (2*(j:Int)) k) _ _ _ _ _ _)
   cases hkp:DZ N t n (2*(j:Int)) k with
   |false=>
    unfold DZ at hkp
    rw [hrv] at hkp
    have e:=acS N t n (de n (2*(j:Int)) k) (dW n (2*(j:Int)) (bt n)) (bT N t n (2*(j:Int)) k).1 (iy (·.1) (bT N t n (2*(j:Int)) k)) (iy (·.2.1) (bT N t n (2*(j:Int)) k)) (iy (·.2.2) (bT N t n (2*(j:Int)) k)) k
    have e':=Xc N t n (de n (2*(j:Int)) k) (dW n (2*(j:Int)) (bt n)) (bT N t n (2*(j:Int)) k).1 (iy (·.1) (bT N t n (2*(j:Int)) k)) (iy (·.2.1) (bT N t n (2*(j:Int)) k)) (iy (·.2.2) (bT N t n (2*(j:Int)) k)) k
    rw [aaa,nc hk,cq (by omega)] at e
    refine Tr.aR (ow _ _ _) 60 _ 3 (aap _) (s':=Cq N t n (bG n (2*(j:Int)) k) (dW n (2*(j:Int)) (bt n)) (bT N t n (2*(j:Int)) k).1 (iy (·.1) (bT N t n (2*(j:Int)) k)) (iy (·.2.1) (bT N t n (2*(j:Int)) k)) (iy (·.2.2) (bT N t n (2*(j:Int)) k)) ((k+1:Nat):Int)) _ e e' ?_
    rw [ht,hok,hkp,hcn,hro,Me hle,pl,fo hk,bf hk,aaa,Me hk];rfl
   |true=>
    unfold DZ at hkp
    rw [hrv] at hkp
    have e:=acT N t n (de n (2*(j:Int)) k) (dW n (2*(j:Int)) (bt n)) (bT N t n (2*(j:Int)) k).1 (iy (·.1) (bT N t n (2*(j:Int)) k)) (iy (·.2.1) (bT N t n (2*(j:Int)) k)) (iy (·.2.2) (bT N t n (2*(j:Int)) k)) k
    have e':=Xd N t n (de n (2*(j:Int)) k) (dW n (2*(j:Int)) (bt n)) (bT N t n (2*(j:Int)) k).1 (iy (·.1) (bT N t n (2*(j:Int)) k)) (iy (·.2.1) (bT N t n (2*(j:Int)) k)) (iy (·.2.2) (bT N t n (2*(j:Int)) k)) k
    rw [aaa,nc hk,cq (by omega)] at e
    show Tr _ _ _ _ _ _ (Cq N t n (bG n (2*(j:Int)) k) _ ((bT N t n (2*(j:Int)) k).1+1) (iy (·.1) ((bT N t n (2*(j:Int)) k).1+1,xw (bT N t n (2*(j:Int)) k).1 (bT N t n (2*(j:Int)) k).2 (bG n (2*(j:Int)) k,de n (2*(j:Int)) k,bZ (de n (2*(j:Int)) k) n))) (iy (·.2.1) ((bT N t n (2*(j:Int)) k).1+1,xw (bT N t n (2*(j:Int)) k).1 (bT N t n (2*(j:Int)) k).2 (bG n (2*(j:Int)) k,de n (2*(j:Int)) k,bZ (de n (2*(j:Int)) k) n))) (iy (·.2.2) ((bT N t n (2*(j:Int)) k).1+1,xw (bT N t n (2*(j:Int)) k).1 (bT N t n (2*(j:Int)) k).2 (bG n (2*(j:Int)) k,de n (2*(j:Int)) k,bZ (de n (2*(j:Int)) k) n))) _)
    rw [A1,A1,A1]
    refine Tr.aR (ow _ _ _) 60 _ 3 (aap _) _ e e' ?_
    have l1:∀f,decide ((iy f (bT N t n (2*(j:Int)) k)).length=(bT N t n (2*(j:Int)) k).1)=true:=λf=>Me (jI f _)
    rw [ht,hok,hkp,hcn,hro,Me hle,pl,fo hk,bf hk,aaa,Me hk,l1,l1,l1,Me (aaf _),Me (show (bT N t n (2*(j:Int)) k).1+1<=2^38 by omega)];rfl
  ·exact Tr.aR (ow _ _ _) 60 _ 3 (aap _) _ (acU N t n _ _ _ _ _ _ _) (Xe N t n _ _ _ _ _ _ _) (by rw [pl,fA (aaf _)];rfl)
 generalize bT N t n (2*(j:Int)) (bt n)=q at key ⊢
 exact G8 (jI _ q) (jI _ q) (jI _ q) key
end
end Go.Proofs.YthlnlcijnoadcaaGreatDoor.Pa
