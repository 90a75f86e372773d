/- This file holds the texts PaC, PaD, a section each. No conditions beyond those in the theorems. -/
import Derived.Test.YthlnlcijnoadcaaGreatDoorGPaB
import Derived.Test.YthlnlcijnoadcaaGreatDoorGMkL
noncomputable section
open Go.Proofs.Tryz
open Go.IntKind (i64 u8 u64 u32)
set_option linter.all false
set_option maxRecDepth 100000
section
namespace Go.Sy
open Go
section
variable {P:Program}
theorem ai.Ou {f:FuncId} {z n:Nat} {g:Nat->List SV} {v:SV} {ex:Bool} {a c:Int} (k:ai P f [.aJ false z n λi=>af (g i),.int .i64 a,.int .i64 c] [] v []) (hs:eB v=false) (hr:jm (λb=>b+1) v=v):ai P f [.bK 0 z n n ex,.int .i64 a,.int .i64 c] [.b [.rows z n g]] v [.b [.rows z n g]]:=λB e w args' hB hl R=>by
 refine (mZ k (h:=[.b [.rows z n g]]) (vs:=[.bK 0 z n n ex,.int .i64 a,.int .i64 c]) (t:=true) ?_ (λ_=>⟨hs,λb hb=>by cases hb⟩) hl R (j:=1) (.inl rfl)).mono ?_
 ·simp [ja,bB,aa]
 ·rintro en w' ⟨v',rfl,e2,h1,h2,h3⟩
  rw [hr] at h1
  refine ⟨v',rfl,e2,h3.m,h1,?_⟩
  have:bI [Blk.b [.rows z n g]] 1 (([]:List Blk).map (P2 1))=[.b [.rows z n g]]:=by simp [bI]
  rw [this] at h2;exact h2
end
end Go.Sy
namespace Go.Proofs.YthlnlcijnoadcaaGreatDoor.Pa
open Go Go.Sy Tr Mk
def GO:List SV->List Nat
 | .bK b _ _ _ _::_=>[b]
 |_=>[]
theorem VE.Ov {N:Nat} {g:Nat->List SV} (h:bF N g=true):∀i,i<N->af (g i)=aq (ag g) i:=λi hi=>by
 rw [(m8.1 h i hi).1];rfl
def K7:Entry prog:=.rdm 40 _ func40 (by decide) rfl GO (λus h0=>match us,h0 with
 | [.bK 0 99 N M ex,.int .i64 x,.int .i64 c],[.b [.rows 99 K g]]=>some (.bC [.agg [.ints .u8 32 (GC N (ag g) x c)],.bool (p9 N (ag g) x c)],bF N g&&decide (N<=71)&&decide (N=M)&&decide (N=K))
 |_,_=>none) λus h0 v e=>by
 split at e
 ·simp only [No,aae,aac,aab] at e
  obtain ⟨rfl,⟨⟨h1,h2⟩,rfl⟩,rfl⟩:=e
  exact ai.Ou (ai.conv (GG (cF.of h1 h2)) ⟨VE.Gy (VE.Ov h1),VE.refl _,VE.refl _,trivial⟩ trivial (VE.refl _) trivial) rfl rfl
 ·cases e
def iF (N:Nat) (t:Nat->aj) (i:Int):Nat:=(bT N t (aO N) (2*i) (bt (aO N).toNat)).1
def rN (N:Nat) (t:Nat->aj) (i:Int):Nat->Int×Int×Int:=(bT N t (aO N) (2*i) (bt (aO N).toNat)).2
def gm (N:Nat) (t:Nat->aj) (i:Int):Nat:=bif aM N t then (bif rL N t i then 0 else 2) else 1
theorem rj {N:Nat} {t:Nat->aj} {i:Int} (hT:cF N t) (h:gm N t i=0):aM N t=true/\rL N t i=true/\∃n j:Nat,n∈sizes/\j<n/\i=(j:Int)/\aO N=(n:Int)/\N=2*n-1/\(t (2*j)).used=true:=by
 unfold gm at h
 cases hc:aM N t with
 |false=>rw [hc] at h;cases h
 |true=>
  cases hu:rL N t i with
  |false=>rw [hc,hu] at h;cases h
  |true=>
   obtain ⟨n,hn,hv,hN,_⟩:=fH hT hc
   have hs:=bu hn
   have h:=hu
   unfold rL at h
   simp only [aac,aab] at h
   obtain ⟨⟨⟨h1,h2⟩,h3⟩,h4⟩:=h
   obtain ⟨j,rfl⟩:=aaB h1
   exact ⟨rfl,rfl,n,j,hn,by omega,rfl,hv,hN,by rw [show (2*((j:Nat):Int)).toNat=2*j by omega] at h4;exact h4⟩
theorem D0 {N:Nat} {t:Nat->aj} {i:Int} (hT:cF N t) (h:gm N t i=0):ai prog 65 [.aJ false 99 N (aq t),.int .i64 i] [] (.bC [.aJ true 3 (iF N t i) (fK (rN N t i)),.nl .nilIface]) []:=by
 obtain ⟨hc,hu,n,j,hn,hj,rfl,hv,hN,_⟩:=rj hT h
 have g:=GN hT hc hu hn hj hv
 unfold iF rN
 rw [hv,aaa]
 exact g
theorem D1 {N:Nat} {t:Nat->aj} {i:Int} (hT:cF N t) (h:gm N t i=1):ai prog 65 [.aJ false 99 N (aq t),.int .i64 i] [] (.bC [cT,.iface 112 (.int .i64 3)]) []:=by
 have hc:aM N t=false:=by
  unfold gm at h
  cases q:aM N t with
  |false=>rfl
  |true=>rw [q] at h;cases q2:rL N t i<;>rw [q2] at h<;>cases h
 exact aI (ia _ _ _ _) 60 func65 (acg N t i) (by rw [show bF N (λi=>af (aq t i))=true from bq hT,Me hT.le,show aM N (ag λi=>af (aq t i))=false from hc];rfl) rfl
theorem D2 {N:Nat} {t:Nat->aj} {i:Int} (hT:cF N t) (h:gm N t i=2):ai prog 65 [.aJ false 99 N (aq t),.int .i64 i] [] (.bC [cT,.iface 112 (.int .i64 9)]) []:=by
 have hc:aM N t=true/\rL N t i=false:=by
  unfold gm at h
  cases q:aM N t with
  |false=>rw [q] at h;cases h
  |true=>
   rw [q] at h
   cases q2:rL N t i with
   |false=>exact ⟨rfl,rfl⟩
   |true=>rw [q2] at h;cases h
 exact aI (ia _ _ _ _) 60 func65 (ach N t i) (by rw [show bF N (λi=>af (aq t i))=true from bq hT,Me hT.le,show aM N (ag λi=>af (aq t i))=true from hc.1,show rL N (ag λi=>af (aq t i)) i=false from hc.2];rfl) rfl
def tW (b:Nat):Entry prog:=.val 65 _ func65 (by decide) rfl true 0 (λvs=>match vs with
 | [.aJ false 99 N g,.int .i64 i]=>match b with
  |0=>some (.bC [.aJ true 3 (iF N (ag g) i) (fK (rN N (ag g) i)),.nl .nilIface],[],bF N g&&decide (N<=71)&&(gm N (ag g) i==0))
  |1=>some (.bC [cT,.iface 112 (.int .i64 3)],[],bF N g&&decide (N<=71)&&(gm N (ag g) i==1))
  |_=>some (.bC [cT,.iface 112 (.int .i64 9)],[],bF N g&&decide (N<=71)&&(gm N (ag g) i==2))
 |_=>none) λvs v new e=>by
 split at e
 ·split at e
  ·simp only [No,aae,aac,aab,aaS] at e
   obtain ⟨rfl,rfl,⟨h1,h2⟩,h3⟩:=e
   exact ai.conv (D0 (cF.of h1 h2) h3) ⟨VE.tree h1,VE.refl _,trivial⟩ trivial (VE.refl _) trivial
  ·simp only [No,aae,aac,aab,aaS] at e
   obtain ⟨rfl,rfl,⟨h1,h2⟩,h3⟩:=e
   exact ai.conv (D1 (cF.of h1 h2) h3) ⟨VE.tree h1,VE.refl _,trivial⟩ trivial (VE.refl _) trivial
  ·simp only [No,aae,aac,aab,aaS] at e
   obtain ⟨rfl,rfl,⟨h1,h2⟩,h3⟩:=e
   exact ai.conv (D2 (cF.of h1 h2) h3) ⟨VE.tree h1,VE.refl _,trivial⟩ trivial (VE.refl _) trivial
 ·cases e
def WK (k p:List Int):List SV:=[.bool true,.int .i64 0,.ints .u8 32 k,.ints .u8 32 (List.replicate 32 0),.ints .u8 32 p,.nl (.slice none 0 0)]
def gF (ks:Nat->List Int):Nat->List SV:=λk=>[.ints .u8 32 (ks k)]
def zc (l:List (Nat×Bool)):bO:=mk (P:=prog) [WL,xu,Oq,r7,K7] [] (uT l)
theorem mJ (l:List (Nat×Bool)):ak prog (zc l):=az _ aL.nil _ _
def EX:Code:=aP f69
def EY (N:Nat) (t:Nat->aj) (leaf:List Int) (x y:Int):List Blk:=[.b [.ints .u8 32 leaf],.b [.rows 99 N (aq t)],.b [.bK 1 99 N N false],.b [.int .i64 x],.b [.int .i64 y]]
def US (i:Int) (M K:Nat) (T:Nat->Int×Int×Int) (ks:Nat->List Int):List (Option SV):=slotsOf 76 [(1,.int .i64 i),(2,.aJ false 3 M (fK T)),(4,.aJ false 32 K (gF ks)),(8,.ptr 0 0 0),(11,.ptr 2 0 0),(22,.fn (.func 146) [] [.ptr 3 0 0,.ptr 4 0 0])]
def GP (i:Int) (M K:Nat) (T:Nat->Int×Int×Int) (ks:Nat->List Int) (l:Nat):Lp:=JW (au 3 EX) (US i M K T ks) l
def Ck (N:Nat) (t:Nat->aj) (leaf:List Int) (x y i:Int) (M K:Nat) (T:Nat->Int×Int×Int) (ks:Nat->List Int) (l:Nat) (p:Int):St:=⟨slotsOf 17 [(0,.fn (.yield l) [] []),(2,.ptr 4 0 0),(4,.int .i64 p)],EY N t leaf x y++[.g (some (GP i M K T ks l))],true⟩
def z9 (N:Nat) (t:Nat->aj) (leaf:List Int) (x y i:Int) (M K:Nat) (T:Nat->Int×Int×Int) (ks:Nat->List Int) (par:List Int) (k:Int):St:=⟨slotsOf 76 [(1,.int .i64 i),(2,.aJ false 3 M (fK T)),(4,.aJ false 32 K (gF ks)),(8,.ptr 0 0 0),(11,.ptr 2 0 0),(13,.ptr 6 0 0),(14,.int .i64 k)],EY N t leaf x y++[.gap,.b [.ints .u8 32 par]],true⟩
def QI (t:Nat->aj) (X:Nat) (leaf:List Int):Nat->List SV:=λj=>br (Nat.beq j X) [.bool (t X).used,.int .i64 (t X).name,.ints .u8 32 leaf,.ints .u8 32 (t X).sign,.ints .u8 32 (t X).par,.ro false .i64 (t X).un] (aq t j)
def lf2 (t:Nat->aj) (X:Nat) (leaf par:List Int):Nat->List SV:=λj=>br (Nat.beq j X) ((QI t X leaf X).take 4++ .ints .u8 32 par::(QI t X leaf X).drop 5) (QI t X leaf j)
theorem acs (N:Nat) (t:Nat->aj) (leaf:List Int) (i:Int) (M K:Nat) (T:Nat->Int×Int×Int) (ks:Nat->List Int):aA (ah [1,2,4,8,11,22] 5 ((aE prog (zc []) 60 0 3 (atoms EX) ⟨aD f69.ntmps [.aJ false 99 N (aq t),.int .i64 i,.aJ false 3 M (fK T),.agg [.ints .u8 32 leaf],.aJ false 32 K (gF ks)],[],true⟩).map λs=>(Exit.normal,s)))=some (.normal,US i M K T ks,EY N t leaf (i64.wrap (2*i)) (aO N)):=by kernel_rfl
theorem WM (N:Nat) (t:Nat->aj) (leaf:List Int) (i:Int) (M K:Nat) (T:Nat->Int×Int×Int) (ks:Nat->List Int):aZ (ah [1,2,4,8,11,22] 5 ((aE prog (zc []) 60 0 3 (atoms EX) ⟨aD f69.ntmps [.aJ false 99 N (aq t),.int .i64 i,.aJ false 3 M (fK T),.agg [.ints .u8 32 leaf],.aJ false 32 K (gF ks)],[],true⟩).map λs=>(Exit.normal,s)))=(aa true (aa true ((bF N λi=>af (aq t i))&&decide (N<=71)))):=by kernel_rfl
theorem acu (N:Nat) (t:Nat->aj) (leaf:List Int) (x y i:Int) (M K:Nat) (T:Nat->Int×Int×Int) (ks:Nat->List Int) (l:Nat):aA (ah [0,2,4] 6 ((aE prog (zc []) 60 6 1 (atoms m7) ⟨aD f146.ntmps [.fn (.yield l) [] [],.ptr 3 0 0,.ptr 4 0 0],EY N t leaf x y++[.g (some (GP i M K T ks l))],true⟩).map λs=>(Exit.normal,s)))=some (.normal,(Ck N t leaf x y i M K T ks l (eD x y)).t,(Ck N t leaf x y i M K T ks l (eD x y)).h):=by kernel_rfl
theorem WN (N:Nat) (t:Nat->aj) (leaf:List Int) (x y i:Int) (M K:Nat) (T:Nat->Int×Int×Int) (ks:Nat->List Int) (l:Nat):aZ (ah [0,2,4] 6 ((aE prog (zc []) 60 6 1 (atoms m7) ⟨aD f146.ntmps [.fn (.yield l) [] [],.ptr 3 0 0,.ptr 4 0 0],EY N t leaf x y++[.g (some (GP i M K T ks l))],true⟩).map λs=>(Exit.normal,s)))=(aa true (aa true (aQ x y))):=by kernel_rfl
theorem acv (N:Nat) (t:Nat->aj) (leaf:List Int) (x y i:Int) (M K:Nat) (T:Nat->Int×Int×Int) (ks:Nat->List Int) (l:Nat) (p:Int):aA (ah [0,2,4] 6 (exec prog (zc [(9,true)]) 60 6 (inner (inner (au 1 m7))) (Ck N t leaf x y i M K T ks l p)))=some (.normal,(Ck N t leaf x y i M K T ks l (eD p y)).t,[.b [.ints .u8 32 leaf],.b [.rows 99 N λj=>br (Nat.beq j p.toNat) [.bool false,.int .i64 0,.ints .u8 32 (List.replicate 32 0),.ints .u8 32 (List.replicate 32 0),.ints .u8 32 (List.replicate 32 0),.nl (.slice none 0 0)] (aq t j)],.b [.bK 1 99 N N false],.b [.int .i64 x],.b [.int .i64 y],.g (some (GP i M K T ks l))]):=by kernel_rfl
theorem WO (N:Nat) (t:Nat->aj) (leaf:List Int) (x y i:Int) (M K:Nat) (T:Nat->Int×Int×Int) (ks:Nat->List Int) (l:Nat) (p:Int):aZ (ah [0,2,4] 6 (exec prog (zc [(9,true)]) 60 6 (inner (inner (au 1 m7))) (Ck N t leaf x y i M K T ks l p)))=(aa (aa (aa true (decide (p>=0))) (aa (aa (aa (aa (decide ((GP i M K T ks l).l=l)) (decide ((GP i M K T ks l).l=l))) (aX p N)) (decide (p.toNat<N))) (decide (l=l)))) (aa true (aQ p y))):=by kernel_rfl
theorem acw (N:Nat) (t:Nat->aj) (leaf:List Int) (x y i:Int) (M K:Nat) (T:Nat->Int×Int×Int) (ks:Nat->List Int) (l:Nat) (p:Int):aA (ah [0,2,4] 6 (exec prog (zc [(9,false)]) 60 6 (inner (inner (au 1 m7))) (Ck N t leaf x y i M K T ks l p)))=some (.exit 0,(Ck N t leaf x y i M K T ks l p).t,(Ck N t leaf x y i M K T ks l p).h):=by kernel_rfl
theorem WQ (N:Nat) (t:Nat->aj) (leaf:List Int) (x y i:Int) (M K:Nat) (T:Nat->Int×Int×Int) (ks:Nat->List Int) (l:Nat) (p:Int):aZ (ah [0,2,4] 6 (exec prog (zc [(9,false)]) 60 6 (inner (inner (au 1 m7))) (Ck N t leaf x y i M K T ks l p)))=(aa true !decide (p>=0)):=by kernel_rfl
theorem acy (N:Nat) (t:Nat->aj) (leaf:List Int) (x y i:Int) (M K:Nat) (T:Nat->Int×Int×Int) (ks:Nat->List Int):aA (ah [1,2,4,8,11,13,14] 7 ((aE prog (zc []) 60 0 2 ((atoms EX).drop 4) ⟨US i M K T ks,EY N t leaf x y++[.gap],true⟩).map λs=>(Exit.normal,s)))=some (.normal,(z9 N t leaf x y i M K T ks (List.replicate 32 0) (i64.wrap ((M:Int)-1))).t,(z9 N t leaf x y i M K T ks (List.replicate 32 0) (i64.wrap ((M:Int)-1))).h):=by kernel_rfl
theorem WR (N:Nat) (t:Nat->aj) (leaf:List Int) (x y i:Int) (M K:Nat) (T:Nat->Int×Int×Int) (ks:Nat->List Int):aZ (ah [1,2,4,8,11,13,14] 7 ((aE prog (zc []) 60 0 2 ((atoms EX).drop 4) ⟨US i M K T ks,EY N t leaf x y++[.gap],true⟩).map λs=>(Exit.normal,s)))=(true):=by kernel_rfl
theorem acz (N:Nat) (t:Nat->aj) (leaf:List Int) (x y i:Int) (M K:Nat) (T:Nat->Int×Int×Int) (ks:Nat->List Int) (par:List Int) (k:Int):aA (ah [1,2,4,8,11,13,14] 7 (exec prog (zc [(32,true)]) 60 0 (inner (inner (au 6 EX))) (z9 N t leaf x y i M K T ks par k)))=some (.normal,(z9 N t leaf x y i M K T ks par (i64.wrap (k-1))).t,[.b [.ints .u8 32 leaf],.b [.rows 99 N λj=>br (Nat.beq j (T k.toNat).1.toNat) (WK (ks k.toNat) par) (aq t j)],.b [.bK 1 99 N N false],.b [.int .i64 x],.b [.int .i64 y],.gap,.b [.ints .u8 32 (GC N (ag λj=>br (Nat.beq j (T k.toNat).1.toNat) (WK (ks k.toNat) par) (aq t j)) (T k.toNat).1 (T k.toNat).2.1)]]):=by kernel_rfl
theorem WS (N:Nat) (t:Nat->aj) (leaf:List Int) (x y i:Int) (M K:Nat) (T:Nat->Int×Int×Int) (ks:Nat->List Int) (par:List Int) (k:Int):aZ (ah [1,2,4,8,11,13,14] 7 (exec prog (zc [(32,true)]) 60 0 (inner (inner (au 6 EX))) (z9 N t leaf x y i M K T ks par k)))=(aa (aa (aa (aa (aa (aa (aa (aa (aa (aa (aa (aa true (decide (k>=0))) (aX k M)) (true&&(decide (k.toNat<M)&&true))) (aX k K)) (true&&(decide (k.toNat<K)&&true))) (aX (T k.toNat).fst N)) (decide ((T k.toNat).fst.toNat<N))) (aX k M)) (true&&(decide (k.toNat<M)&&true))) (aX k M)) (true&&(decide (k.toNat<M)&&true))) (aa true ((bF N λi=>br (i.beq (T k.toNat).1.toNat) (WK (ks k.toNat) par) (aq t i))&&decide (N<=71)&&decide (N=N)&&decide (N=N)))):=by kernel_rfl
theorem acA (N:Nat) (t:Nat->aj) (leaf:List Int) (x y i:Int) (M K:Nat) (T:Nat->Int×Int×Int) (ks:Nat->List Int) (par:List Int) (k:Int):aA (ah [1,2,4,8,11,13,14] 7 (exec prog (zc [(32,false)]) 60 0 (inner (inner (au 6 EX))) (z9 N t leaf x y i M K T ks par k)))=some (.exit 2,(z9 N t leaf x y i M K T ks par k).t,(z9 N t leaf x y i M K T ks par k).h):=by kernel_rfl
theorem WT (N:Nat) (t:Nat->aj) (leaf:List Int) (x y i:Int) (M K:Nat) (T:Nat->Int×Int×Int) (ks:Nat->List Int) (par:List Int) (k:Int):aZ (ah [1,2,4,8,11,13,14] 7 (exec prog (zc [(32,false)]) 60 0 (inner (inner (au 6 EX))) (z9 N t leaf x y i M K T ks par k)))=(aa true !decide (k>=0)):=by kernel_rfl
theorem acB (N:Nat) (t:Nat->aj) (leaf:List Int) (x y i:Int) (M K:Nat) (T:Nat->Int×Int×Int) (ks:Nat->List Int) (par:List Int) (k:Int):aA (ah [10] 2 (cn prog (zc []) 60 0 ((atoms EX).drop 7) (z9 N t leaf x y i M K T ks par k)))=some (.ret,slotsOf 76 [(10,.bK 1 99 N N false)],[.b [.ints .u8 32 leaf],.b [.rows 99 N (lf2 t (i64.wrap (2*i)).toNat leaf par)]]):=by kernel_rfl
theorem WU (N:Nat) (t:Nat->aj) (leaf:List Int) (x y i:Int) (M K:Nat) (T:Nat->Int×Int×Int) (ks:Nat->List Int) (par:List Int) (k:Int):aZ (ah [10] 2 (cn prog (zc []) 60 0 ((atoms EX).drop 7) (z9 N t leaf x y i M K T ks par k)))=(aa (aa (aa (aa true (aX (i64.wrap (2*i)) N)) (decide ((i64.wrap (2*i)).toNat<N))) (aX (i64.wrap (2*i)) N)) (decide ((i64.wrap (2*i)).toNat<N))):=by kernel_rfl
end Go.Proofs.YthlnlcijnoadcaaGreatDoor.Pa
end
section
namespace Go.Proofs.YthlnlcijnoadcaaGreatDoor.Pa
open Go Go.Sy Tr S2 Mk
structure KT (T:Nat->Int×Int×Int) (M n j:Nat):Prop where
 way:∀k,k<M->∃a,a<bt n/\T k=(bG n (2*(j:Int)) a,de n (2*(j:Int)) a,bZ (de n (2*(j:Int)) a) n)
 inj:∀k,k<M->∀k',k'<M->(T k).1.toNat=(T k').1.toNat->k=k'
theorem GQ {N n j:Nat} {t:Nat->aj} (hn:n∈sizes) (hj:j<n):∀i,i<=bt n->(bT N t n (2*(j:Int)) i).1<=i/\(∀k,k<(bT N t n (2*(j:Int)) i).1->∃a,a<i/\(bT N t n (2*(j:Int)) i).2 k=(bG n (2*(j:Int)) a,de n (2*(j:Int)) a,bZ (de n (2*(j:Int)) a) n))/\(∀k,k<(bT N t n (2*(j:Int)) i).1->∀k',k'<(bT N t n (2*(j:Int)) i).1->((bT N t n (2*(j:Int)) i).2 k).1.toNat=((bT N t n (2*(j:Int)) i).2 k').1.toNat->k=k'):=by
 intro i
 induction i with
 |zero=>exact λ_=>⟨aaf _,λk hk=>absurd hk (Nat.not_lt_zero _),λk hk=>absurd hk (Nat.not_lt_zero _)⟩
 |succ i ih=>
  intro hi
  obtain ⟨h0,h1,h2⟩:=ih (by omega)
  have e:bT N t n (2*(j:Int)) (i+1)=bif DZ N t n (2*(j:Int)) i then ((bT N t n (2*(j:Int)) i).1+1,xw (bT N t n (2*(j:Int)) i).1 (bT N t n (2*(j:Int)) i).2 (bG n (2*(j:Int)) i,de n (2*(j:Int)) i,bZ (de n (2*(j:Int)) i) n)) else bT N t n (2*(j:Int)) i:=rfl
  rw [e]
  cases DZ N t n (2*(j:Int)) i with
  |false=>exact ⟨Nat.le_succ_of_le h0,λk hk=>by obtain ⟨a,b,c⟩:=h1 k hk;exact ⟨a,by omega,c⟩,h2⟩
  |true=>
   generalize bT N t n (2*(j:Int)) i=q at*
   obtain ⟨M,T⟩:=q
   dsimp only [_root_.cond_true] at h0 h1 h2 ⊢
   have old:∀k,k<M->xw M T (bG n (2*(j:Int)) i,de n (2*(j:Int)) i,bZ (de n (2*(j:Int)) i) n) k=T k:=λk hk=>by unfold xw;rw [GR,Me hk];rfl
   have new:xw M T (bG n (2*(j:Int)) i,de n (2*(j:Int)) i,bZ (de n (2*(j:Int)) i) n) M=(bG n (2*(j:Int)) i,de n (2*(j:Int)) i,bZ (de n (2*(j:Int)) i) n):=by unfold xw;rw [GR,aam (Nat.lt_irrefl M)];rfl
   have no:∀k,k<M->(T k).1.toNat≠(bG n (2*(j:Int)) i).toNat:=λk hk q=>by
    obtain ⟨a,ha,e⟩:=h1 k hk
    have w:=ep hn hj (show a<bt n by omega)
    have w':=ep hn hj (show i<bt n by omega)
    rw [e] at q
    exact w'.ne a (by omega) (by omega) (by have:=w.nn;have:=w'.nn;dsimp only at q;omega)
   refine ⟨Nat.succ_le_succ h0,λk hk=>?_,λk hk k' hk' q=>?_⟩
   ·rcases acf k M with g|g
    ·rw [old k g];obtain ⟨a,b,c⟩:=h1 k g;exact ⟨a,by omega,c⟩
    ·obtain rfl:k=M:=by omega
     exact ⟨i,by omega,new⟩
   ·rcases acf k M with g|g<;>rcases acf k' M with g'|g'
    ·rw [old k g,old k' g'] at q;exact h2 k g k' g' q
    ·obtain rfl:k'=M:=by omega
     rw [old k g,new] at q;exact absurd q (no k g)
    ·obtain rfl:k=M:=by omega
     rw [old k' g',new] at q;exact absurd q.symm (no k' g')
    ·omega
theorem GS (n:Nat):bt n<=5:=by unfold bt;split<;>omega
theorem GU {N n j:Nat} {t:Nat->aj} (hn:n∈sizes) (hj:j<n) (hv:aO N=n):KT (rN N t j) (iF N t j) n j/\iF N t j<=5:=by
 obtain ⟨h0,h1,h2⟩:=GQ (N:=N) (t:=t) hn hj (bt n) (aaf _)
 have:=GS n
 unfold rN iF
 rw [hv,aaa]
 exact ⟨⟨h1,h2⟩,by omega⟩
def bw (B:Nat->aj) (T:Nat->Int×Int×Int) (f:Nat->aj):Nat->Nat->aj
 |0=>B
 |s+1=>c7 (bw B T f s) (T s).1.toNat (f s)
section
variable {B:Nat->aj} {T:Nat->Int×Int×Int} {f g:Nat->aj}
theorem ec:∀{M},(∀k,k<M->f k=g k)->bw B T f M=bw B T g M
 |0,_=>rfl
 |M+1,h=>by unfold bw;rw [ec λk hk=>h k (by omega),h M (by omega)]
theorem D3 (t:Nat->aj) {x y:Nat} (h:x≠y) (v w:aj):c7 (c7 t x v) y w=c7 (c7 t y w) x v:=by
 funext i
 unfold c7
 by_cases h1:i=x
 ·subst h1;rw [aaM rfl,aaC h,aaM rfl]
 ·rw [aaC h1,aaC h1]
theorem vO (t:Nat->aj) (x:Nat) (v w:aj):c7 (c7 t x v) x w=c7 t x w:=by
 funext i
 unfold c7
 by_cases h1:i=x
 ·rw [aaM h1,aaM h1]
 ·rw [aaC h1,aaC h1,aaC h1]
theorem pN:∀{M k},k<M->(∀a,a<M->∀b,b<M->(T a).1.toNat=(T b).1.toNat->a=b)->(v:aj)->c7 (bw B T f M) (T k).1.toNat v=bw B T (λi=>if i=k then v else f i) M
 |M+1,k,hk,hi,v=>by
  unfold bw
  rcases acf k M with g|g
  ·rw [D3 _ (λq=>by have:=hi M (by omega) k (by omega) q;omega),pN g (λa ha b hb=>hi a (by omega) b (by omega)) v,aaC (by omega)]
  ·obtain rfl:k=M:=by omega
   rw [vO,aaM rfl,ec (f:=λi=>if i=k then v else f i) (g:=f) λi hi=>aaC (by omega)]
theorem qA:∀{M},(∀k,k<M->B (T k).1.toNat=eX)->bw B T (λ_=>eX) M=B
 |0,_=>rfl
 |M+1,h=>by
  unfold bw
  rw [qA λk hk=>h k (by omega)]
  funext i
  unfold c7
  by_cases e:i=(T M).1.toNat
  ·rw [aaM e,e,h M (by omega)]
  ·rw [aaC e]
theorem pO:∀{M k},k<M->(∀a,a<M->∀b,b<M->(T a).1.toNat=(T b).1.toNat->a=b)->bw B T f M (T k).1.toNat=f k
 |M+1,k,hk,hi=>by
  unfold bw c7
  rcases acf k M with g|g
  ·rw [aaC (λq=>by have:=hi k (by omega) M (by omega) q;omega)]
   exact pO g λa ha b hb=>hi a (by omega) b (by omega)
  ·obtain rfl:k=M:=by omega
   rw [aaM rfl]
theorem AX {t:Nat->aj} {n j M:Nat} (hn:n∈sizes) (hj:j<n) (h:PW t B n j) (hK:KT T M n j) (hf:∀k,k<M->NU (f k)):∀s,s<=M->PW t (bw B T f s) n j
 |0,_=>h
 |s+1,hs=>by
  obtain ⟨a,ha,e⟩:=hK.way s (by omega)
  unfold bw
  rw [e]
  exact (AX hn hj h hK hf s (by omega)).upd hn hj ha (hf s (by omega))
end
def gq (t:Nat->aj) (T:Nat->Int×Int×Int) (ks:Nat->List Int) (M:Nat):Nat->List Int
 |0=>Mk.cH
 |s+1=>AY t (ks (M-1-s)) (gq t T ks M s) (T (M-1-s)).2.2
theorem D4 (xs:List Int):kA (dB xs):=⟨tF _,vM _⟩
theorem tX (t:Nat->aj) (T:Nat->Int×Int×Int) (ks:Nat->List Int) (M:Nat):∀s,kA (gq t T ks M s)
 |0=>Cl
 |s+1=>by unfold gq AY;exact D4 _
def Cm (t:Nat->aj) (T:Nat->Int×Int×Int) (ks:Nat->List Int) (M s:Nat):Nat->aj:=λk=>if M-s<=k then fresh (ks k) (gq t T ks M (M-1-k)) else eX
def ou (t:Nat->aj) (n j M:Nat) (T:Nat->Int×Int×Int) (ks:Nat->List Int) (s:Nat):Nat->aj:=bw (bh t n (2*(j:Int)) (bt n)) T (Cm t T ks M s) M
def K8 (t:Nat->aj) (n j M:Nat) (T:Nat->Int×Int×Int) (ks:Nat->List Int) (leaf:List Int):Nat->aj:=c7 (ou t n j M T ks M) (2*j) {t (2*j) with key:=leaf,par:=gq t T ks M M}
section
variable {N n j M:Nat} {t:Nat->aj} {T:Nat->Int×Int×Int} {ks:Nat->List Int} {leaf:List Int}
theorem QJ (hk:∀k,k<M->kA (ks k)) (s:Nat):∀k,k<M->NU (Cm t T ks M s k):=λk hk'=>by
 unfold Cm
 split
 ·exact .inr ⟨_,_,rfl,hk k hk',tX ..⟩
 ·exact .inl rfl
theorem GV {s:Nat} (hs:s<M):∀k,k<M->(if k=M-1-s then fresh (ks (M-1-s)) (gq t T ks M s) else Cm t T ks M s k)=Cm t T ks M (s+1) k:=λk hk=>by
 unfold Cm
 by_cases h:k=M-1-s
 ·subst h
  rw [aaM rfl,aaM (by omega),show M-1-(M-1-s)=s by omega]
 ·rw [aaC h]
  by_cases h2:M-s<=k
  ·rw [aaM h2,aaM (by omega)]
  ·rw [aaC h2,aaC (by omega)]
theorem zd (hK:KT T M n j) {s:Nat} (hs:s<M):c7 (ou t n j M T ks s) (T (M-1-s)).1.toNat (fresh (ks (M-1-s)) (gq t T ks M s))=ou t n j M T ks (s+1):=by
 unfold ou
 rw [pN (by omega) hK.inj,ec (GV hs)]
theorem ze (hn:n∈sizes) (hj:j<n) (hK:KT T M n j):ou t n j M T ks 0=bh t n (2*(j:Int)) (bt n):=by
 unfold ou
 rw [ec (g:=λ_=>eX) λk hk=>by unfold Cm;rw [aaC (by omega)]]
 refine qA λk hk=>?_
 obtain ⟨a,ha,e⟩:=hK.way k hk
 rw [e]
 exact m9 _ a ha
theorem xy (hn:n∈sizes) (hj:j<n) (hK:KT T M n j) (hk:∀k,k<M->kA (ks k)) (h1:kA (t (2*j)).key) (h2:kA (t (2*j)).par) (s:Nat):PW t (ou t n j M T ks s) n j:=
 AX hn hj (zg hn hj h1 h2) hK (QJ hk s) M (aaf _)
theorem GW (hn:n∈sizes) (hj:j<n) (hN:N=2*n-1) (hv:aO N=n) (gj:(t (2*j)).used=true) (hc:aM N t=true) (hK:KT T M n j) (hk:∀k,k<M->kA (ks k)) (h1:kA (t (2*j)).key) (h2:kA (t (2*j)).par) {s:Nat} (hs:s<M):
  GC N (ou t n j M T ks (s+1)) (T (M-1-s)).1 (T (M-1-s)).2.1=gq t T ks M (s+1):=by
 obtain ⟨a,ha,e⟩:=hK.way (M-1-s) (by omega)
 have g:=pO (B:=bh t n (2*(j:Int)) (bt n)) (f:=Cm t T ks M (s+1)) (show M-1-s<M by omega) hK.inj
 have:Cm t T ks M (s+1) (M-1-s)=fresh (ks (M-1-s)) (gq t T ks M s):=by
  unfold Cm
  rw [aaM (by omega),show M-1-(M-1-s)=s by omega]
 rw [this,e] at g
 have m:=(xy hn hj hK hk h1 h2 (s+1)).mark hn hj hN hv gj hc ha g
 unfold gq
 rw [e]
 exact m.2
theorem pP (hn:n∈sizes) (hj:j<n) (hK:KT T M n j):∀s,ou t n j M T ks s (2*j)=t (2*j):=λs=>by
 unfold ou
 have far:∀m,m<=M->bw (bh t n (2*(j:Int)) (bt n)) T (Cm t T ks M s) m (2*j)=t (2*j):=λm=>by
  induction m with
  |zero=>exact λ_=>lq _ λa ha e=>by have:=(ep hn hj ha).GX;omega
  |succ m ih=>
   intro hm
   unfold bw c7
   obtain ⟨a,ha,e⟩:=hK.way m (by omega)
   rw [aaC (λq=>by rw [e] at q;have:=(ep hn hj ha).GX;dsimp only at q;omega)]
   exact ih (by omega)
 exact far M (aaf _)
theorem tY (t:Nat->aj) (x:Nat) (k p:List Int):(λj=>br (Nat.beq j x) (WK k p) (aq t j))=aq (c7 t x (fresh k p)):=by
 funext j
 rw [AZ]
 unfold aq c7
 by_cases h:j=x
 ·rw [Me h,aaM h];rfl
 ·rw [aam h,aaC h];rfl
theorem zh (t:Nat->aj) (X:Nat) (leaf par:List Int):lf2 t X leaf par=aq (c7 t X {t X with key:=leaf,par:=par}):=by
 have hX:QI t X leaf X=({t X with key:=leaf}:aj).cells:=by unfold QI;rw [AZ,Me rfl];rfl
 funext j
 unfold lf2
 rw [hX,AZ]
 unfold aq c7
 by_cases h:j=X
 ·subst h;rw [hX,Me rfl,aaM rfl];rfl
 ·rw [aam h,aaC h]
  show br false _ (QI t X leaf j)=_
  unfold QI
  rw [AZ,aam h];rfl
theorem QK (hm:n∈sizes) (hj:j<n) (hM:N=2*n-1) (K:Nat) (i:Int) (l:Nat):
  ai prog 146 [.fn (.yield l) [] [],.ptr 3 0 0,.ptr 4 0 0] (EY N t leaf (2*(j:Int)) n++[.g (some (GP i M K T ks l))]) (.bC []) (EY N (bh t n (2*(j:Int)) (bt n)) leaf (2*(j:Int)) n++[.g (some (GP i M K T ks l))]):=by
 obtain ⟨u1,u2,u3⟩:=nP hm hj
 rw [show ((2*j:Nat):Int)=2*(j:Int) by omega] at u1 u2 u3
 refine ai.toEnd (h:=EY N t leaf (2*(j:Int)) n++[.g (some (GP i M K T ks l))]) func146 rfl 1 0 (λk=>Ck N (bh t n (2*(j:Int)) k) leaf (2*(j:Int)) n i M K T ks l (bG n (2*(j:Int)) k)) (bt n)
  (λy s' g=>aV.bk (mJ []) 60 1 _ 6 (aaf 6) (s1:=Ck N (bh t n (2*(j:Int)) 0) leaf (2*(j:Int)) n i M K T ks l (bG n (2*(j:Int)) 0)) _ (acu N t leaf (2*(j:Int)) n i M K T ks l) (WN N t leaf (2*(j:Int)) n i M K T ks l) (by rw [u3];rfl) (by decide) rfl g) (by decide) (by kernel_rfl)
  (λk hk=>?_) (sE:=Ck N (bh t n (2*(j:Int)) (bt n)) leaf (2*(j:Int)) n i M K T ks l (bG n (2*(j:Int)) (bt n))) (s':=Ck N (bh t n (2*(j:Int)) (bt n)) leaf (2*(j:Int)) n i M K T ks l (bG n (2*(j:Int)) (bt n))) (x:=.normal) (v:=[]) ?_ ⟨rfl,rfl⟩ (.inr rfl) rfl
 ·obtain ⟨g1,g2⟩:=u1 k hk
  obtain ⟨g3,g4⟩:=fX g1
  have hlt:(bG n (2*(j:Int)) k).toNat<N:=by omega
  have e:=acv N (bh t n (2*(j:Int)) k) leaf (2*(j:Int)) n i M K T ks l (bG n (2*(j:Int)) k)
  rw [Cn] at e
  exact Tr.aR (mJ _) 60 _ 6 (aaf _) (s':=Ck N (bh t n (2*(j:Int)) (k+1)) leaf (2*(j:Int)) n i M K T ks l (bG n (2*(j:Int)) (k+1))) _ e (WO N (bh t n (2*(j:Int)) k) leaf (2*(j:Int)) n i M K T ks l (bG n (2*(j:Int)) k)) (by
   rw [Me (show bG n (2*(j:Int)) k>=0 from g2),mK g3 (by omega),Me hlt,g1,Me (show (GP i M K T ks l).l=l from rfl),Me rfl];rfl)
 ·exact Tr.aR (mJ _) 60 _ 6 (aaf _) _ (acw N (bh t n (2*(j:Int)) (bt n)) leaf (2*(j:Int)) n i M K T ks l _) (WQ N (bh t n (2*(j:Int)) (bt n)) leaf (2*(j:Int)) n i M K T ks l _) (by rw [u2];rfl)
theorem GY (hT:cF N t) (hn:n∈sizes) (hj:j<n) (hN:N=2*n-1) (hv:aO N=n) (gj:(t (2*j)).used=true) (hc:aM N t=true) (hK:KT T M n j) (hM:M<=5) (hk:∀k,k<M->kA (ks k)) (h1:kA (t (2*j)).key) (h2:kA (t (2*j)).par) (hl:leaf.length=32):
  ai prog 69 [.aJ false 99 N (aq t),.int .i64 j,.aJ false 3 M (fK T),.agg [.ints .u8 32 leaf],.aJ false 32 M (gF ks)] [] (.aJ true 99 N (aq (K8 t n j M T ks leaf))) []:=by
 have hs:=bu hn
 have hle:=hT.le
 have w2:i64.wrap (2*(j:Int))=2*(j:Int):=cg (by omega) (by omega)
 have tok:∀s,cF N (ou t n j M T ks s):=λs=>(xy hn hj hK hk h1 h2 s).tok hn hj hN hT
 refine ai.xx (v:=.bK 0 99 N N false) (aaf _) (λ_ _ x _ _ H hv=>H x hv) ?_
 refine ai.yN (v:=.bK 1 99 N N false) (h1:=[.b [.ints .u8 32 leaf],.b [.rows 99 N (aq (K8 t n j M T ks leaf))]]) [1] ?_ rfl
 refine ai.mk (vs:=[.bK 1 99 N N false]) func69 rfl (x:=.ret) (s:=⟨slotsOf 76 [(10,.bK 1 99 N N false)],[.b [.ints .u8 32 leaf],.b [.rows 99 N (aq (K8 t n j M T ks leaf))]],true⟩) ?_ (.inl rfl) (by kernel_rfl)
 have e:=acs N t leaf j M M T ks
 rw [hv,w2] at e
 refine aV.bk (mJ []) 60 3 _ 5 (aap _) (s1:=⟨US j M M T ks,EY N t leaf (2*(j:Int)) n,true⟩) _ e (WM N t leaf j M M T ks) (by rw [show bF N (λi=>af (aq t i))=true from bq hT,Me hle];rfl) (by decide) rfl ?_
 refine aV.item 3 (by decide) (s1:=⟨US j M M T ks,EY N (bh t n (2*(j:Int)) (bt n)) leaf (2*(j:Int)) n++[.gap],true⟩) ?_ ?_
 ·exact Tr.w9 0 (by kernel_rfl) (f:=146) (first:=[]) (lO:=[.ptr 3 0 0,.ptr 4 0 0]) true func146 (by decide) rfl (by kernel_rfl) (λl=>QK hn hj hN M j l)
   (λl=>⟨_,rfl,rfl,by simp [GP,JW],rfl⟩) (λl=>rfl)
 have e:=acy N (bh t n (2*(j:Int)) (bt n)) leaf (2*(j:Int)) n j M M T ks
 rw [cg (by omega) (by omega), <-ze (t:=t) (ks:=ks) hn hj hK] at e
 rw [<-ze (t:=t) (ks:=ks) hn hj hK]
 refine aV.bk (mJ []) 60 2 _ 7 (aap _) (l:=(atoms EX).drop 4) (s1:=z9 N (ou t n j M T ks 0) leaf (2*(j:Int)) n j M M T ks (gq t T ks M 0) ((M:Int)-1-((0:Nat):Int))) _ (by rw [show (M:Int)-1-((0:Nat):Int)=(M:Int)-1 by omega];exact e) (WR N (ou t n j M T ks 0) leaf (2*(j:Int)) n j M M T ks) rfl (by decide) rfl ?_
 refine aV.item 2 (by decide) (s1:=z9 N (ou t n j M T ks M) leaf (2*(j:Int)) n j M M T ks (gq t T ks M M) ((M:Int)-1-(M:Int))) (Tr.loop 2 (by kernel_rfl) (λs=>z9 N (ou t n j M T ks s) leaf (2*(j:Int)) n j M M T ks (gq t T ks M s) ((M:Int)-1-(s:Int))) M (λs hs'=>?_) ?_) ?_
 ·have ek:(M:Int)-1-(s:Int)=((M-1-s:Nat):Int):=by omega
  have e:=acz N (ou t n j M T ks s) leaf (2*(j:Int)) n j M M T ks (gq t T ks M s) ((M:Int)-1-(s:Int))
  have e':=WS N (ou t n j M T ks s) leaf (2*(j:Int)) n j M M T ks (gq t T ks M s) ((M:Int)-1-(s:Int))
  rw [ek,aaa,tY,zd hK hs',ov,GW hn hj hN hv gj hc hK hk h1 h2 hs',cg (by omega) (by omega),show ((M-1-s:Nat):Int)-1=(M:Int)-1-((s+1:Nat):Int) by omega] at e
  rw [ek,aaa,tY,zd hK hs'] at e'
  rw [ek]
  obtain ⟨a,ha,eT⟩:=hK.way (M-1-s) (by omega)
  have w:=ep hn hj ha
  have hin:aX (T (M-1-s)).1 N=true:=by rw [eT];exact mK w.nn (by have:=w.lt;dsimp only;omega)
  have hlt:(T (M-1-s)).1.toNat<N:=by rw [eT];have:=w.lt;have:=w.nn;dsimp only;omega
  refine Tr.aR (mJ _) 60 _ 7 (aap _) (s':=z9 N (ou t n j M T ks (s+1)) leaf (2*(j:Int)) n j M M T ks (gq t T ks M (s+1)) ((M:Int)-1-((s+1:Nat):Int))) _ e e' ?_
  rw [Me (show (((M-1-s:Nat):Int)>=0) by omega),bf (show M-1-s<M by omega),Me (show M-1-s<M by omega),hin,Me hlt,bq (tok (s+1)),Me hle,Me (Eq.refl N)]
  rfl
 ·exact Tr.aR (mJ _) 60 _ 7 (aap _) _ (acA N (ou t n j M T ks M) leaf (2*(j:Int)) n j M M T ks (gq t T ks M M) ((M:Int)-1-(M:Int))) (WT N (ou t n j M T ks M) leaf (2*(j:Int)) n j M M T ks (gq t T ks M M) ((M:Int)-1-(M:Int))) (by rw [aam (show ¬((M:Int)-1-(M:Int)>=0) by omega)];rfl)
 ·have e:=acB N (ou t n j M T ks M) leaf (2*(j:Int)) n j M M T ks (gq t T ks M M) ((M:Int)-1-(M:Int))
  have e':=WU N (ou t n j M T ks M) leaf (2*(j:Int)) n j M M T ks (gq t T ks M M) ((M:Int)-1-(M:Int))
  rw [w2,show (2*(j:Int)).toNat=2*j by omega,zh,pP hn hj hK] at e
  rw [w2,show (2*(j:Int)).toNat=2*j by omega] at e'
  refine aV.og (mJ _) 60 _ 2 (aap _) _ e e' ?_ (by intro q;cases q)
  rw [show (2*(j:Int))=((2*j:Nat):Int) by omega,bf (show 2*j<N by omega),Me (show 2*j<N by omega)]
  rfl
end
end Go.Proofs.YthlnlcijnoadcaaGreatDoor.Pa
end
