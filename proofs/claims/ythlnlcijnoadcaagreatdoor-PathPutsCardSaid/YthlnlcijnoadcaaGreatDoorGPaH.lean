/- This file has the reference's Way and renew as contracts, and proves that of its Put (burrowref17). Conditions: trees of 71 nodes at most. -/
import Derived.Test.YthlnlcijnoadcaaGreatDoorGPaG
noncomputable section
open Go.Proofs.Tryz
open Go.IntKind (i64 u8 u64 u32)
set_option linter.all false
set_option maxRecDepth 100000
namespace Go.Proofs.YthlnlcijnoadcaaGreatDoor.Pa
open Go Go.Sy Tr Mk
def rQ (f:Int×Int×Int->Int) (N:Nat) (t:Nat->aj) (i:Int):List Int:=iy f (iF N t i,rN N t i)
def rwV (b N:Nat) (t:Nat->aj) (i:Int):SV:=match b with
 |0=>.bC [.ro true .i64 (rQ (·.1) N t i),.ro true .i64 (rQ (·.2.1) N t i),.ro true .i64 (rQ (·.2.2) N t i),.int .i64 0]
 |1=>Ld 3
 |_=>Ld 9
theorem G9 {N:Nat} {t:Nat->aj} {i:Int} (hT:cF N t) (hg:aM N t=cN N t) {b:Nat} (h:gm N t i=b):ai prog 54 [.aJ false 99 N (aq t),.int .i64 i] [] (rwV b N t i) []:=by
 have hok:bF N (λi=>af (aq t i))=true:=bq hT
 have ht:(ag λi=>af (aq t i))=t:=rfl
 subst h
 cases hb:gm N t i with
 |zero=>
  obtain ⟨hc,hu,n,j,hn,hj,rfl,hv,hN,_⟩:=rj hT hb
  have g:=Lf hT (hg▸hc) hc hu hn hj hN hv
  unfold rwV rQ iF rN
  rw [hv,aaa]
  exact g
 |succ b=>
  cases b with
  |zero=>
   have hc:cN N t=false:=by
    rw [<-hg]
    unfold gm at hb
    cases q:aM N t with
    |false=>rfl
    |true=>rw [q] at hb;cases q2:rL N t i<;>rw [q2] at hb<;>cases hb
   exact aI (ow _ _ _) 60 func54 (acP N t i) (by rw [ht,hok,Me hT.le,hc];rfl) rfl
  |succ b=>
   have hc:cN N t=true/\rL N t i=false:=by
    rw [<-hg]
    unfold gm at hb
    cases q:aM N t with
    |false=>rw [q] at hb;cases hb
    |true=>
     rw [q] at hb
     cases q2:rL N t i with
     |false=>exact ⟨rfl,rfl⟩
     |true=>rw [q2] at hb;cases hb
   exact aI (ow _ _ _) 60 func54 (acQ N t i) (by rw [ht,hok,Me hT.le,hc.1,hc.2];rfl) rfl
theorem A2 {N:Nat} {t:Nat->aj} {i:Int} {ks:Nat->List Int} {leaf:List Int} (hT:cF N t) (h:gm N t i=0) (hb:e9 N t=true) (hk:Aa (iF N t i) ks=true) (hl:kA leaf):
  ai prog 55 [.aJ false 99 N (aq t),.int .i64 i,.ro false .i64 (rQ (·.1) N t i),.ro false .i64 (rQ (·.2.1) N t i),.agg [.ints .u8 32 leaf],.aJ false 32 (iF N t i) (gF ks)] [] (.aJ true 99 N (aq (iw N t i ks leaf))) []:=by
 obtain ⟨hc,hu,n,j,hn,hj,rfl,hv,hN,gj⟩:=rj hT h
 obtain ⟨hK,hM⟩:=GU (N:=N) (t:=t) hn hj hv
 unfold iw
 rw [hv,aaa,aaa]
 exact D8 hT hb hn hj hN hv gj hc hK hM (xz hk) hl
def Xs (b:Nat):Entry prog:=.val 54 _ func54 (by decide) rfl true 0 (λvs=>match vs with
 | [.aJ false 99 N g,.int .i64 i]=>some (rwV b N (ag g) i,[],bF N g&&decide (N<=71)&&(aM N (ag g)==cN N (ag g))&&(gm N (ag g) i==b))
 |_=>none) λvs v new e=>by
 split at e
 ·simp only [No,aae,aac,aab,aaS] at e
  obtain ⟨rfl,rfl,⟨⟨h1,h2⟩,h3⟩,h4⟩:=e
  exact ai.conv (G9 (cF.of h1 h2) h3 h4) ⟨VE.tree h1,VE.refl _,trivial⟩ trivial (VE.refl _) trivial
 ·cases e
attribute [local instance low] Classical.propDecidable
def Lh:Entry prog:=.val 55 _ func55 (by decide) rfl true 0 (λvs=>match vs with
 | [.aJ false 99 N g,.int .i64 i,.ro false .i64 ws,.ro false .i64 kd,.agg [.ints .u8 32 leaf],.aJ false 32 K gK]=>some (.aJ true 99 N (aq (iw N (ag g) i (gY gK) leaf)),[],bF N g&&decide (N<=71)&&(gm N (ag g) i==0)&&e9 N (ag g)&&decide (ws=rQ (·.1) N (ag g) i)&&decide (kd=rQ (·.2.1) N (ag g) i)&&decide (K=iF N (ag g) i)&&decide (gK=gF (gY gK))&&Aa K (gY gK)&&decide (kA leaf))
 |_=>none) λvs v new e=>by
 split at e
 ·simp only [No,aae,aac,aab,aaS] at e
  obtain ⟨rfl,rfl,⟨⟨⟨⟨⟨⟨⟨⟨h1,h2⟩,h3⟩,h4⟩,rfl⟩,rfl⟩,rfl⟩,h8⟩,h9⟩,h10⟩:=e
  have g:=A2 (cF.of h1 h2) h3 h4 h9 h10
  rw [<-h8] at g
  exact ai.conv g ⟨VE.tree h1,VE.refl _,VE.refl _,VE.refl _,VE.refl _,VE.refl _,trivial⟩ trivial (VE.refl _) trivial
 ·cases e
def fI (b:Nat) (l:List (Nat×Bool)):bO:=mk (P:=prog) [Xs b,Lh] [] (uT l)
theorem bU (b:Nat) (l:List (Nat×Bool)):ak prog (fI b l):=az _ aL.nil _ _
def Ab:Code:=aP f16
def UT (u:Bool) (nm:Int) (k sg p un:List Int):List SV:=[.bool u,.int .i64 nm,.ints .u8 32 k,.ints .u8 32 sg,.ints .u8 32 p,.ro false .i64 un]
def rpT (N:Nat) (t:Nat->aj) (i:Int) (v:SV) (j:Int):List (Option SV):=slotsOf 102 [(0,.aJ false 99 N (aq t)),(1,.int .i64 i),(5,.ptr 0 0 0),(8,.ro true .i64 (rQ (·.1) N t i)),(9,.ro true .i64 (rQ (·.2.1) N t i)),(12,.ptr 1 0 0),(13,v),(14,.int .i64 j)]
def fB (N:Nat) (t:Nat->aj) (i:Int) (u:Bool) (nm:Int) (k sg p un:List Int) (S:Nat) (ks:Nat->List Int) (sv:Nat->Nat) (n:Nat) (j:Int):St:=⟨rpT N t i (.bK 2 32 n n false) j,[.b (lu u nm k sg p un S ks sv),.b (UT u nm k sg p un),.b [.rows 32 n (gF ks)]],true⟩
def Xt (N:Nat) (t:Nat->aj) (i:Int) (u:Bool) (nm:Int) (k sg p un:List Int) (S:Nat) (ks:Nat->List Int) (sv:Nat->Nat):St:=⟨rpT N t i (.aJ true 32 S (gF ks)) S,[.b (lu u nm k sg p un S ks sv),.b (UT u nm k sg p un),.b []],true⟩
abbrev E1 (n:Int):SV:=.bC [cT,.int .i64 n]
theorem ac8 (N:Nat) (t:Nat->aj) (i:Int) (u:Bool) (nm:Int) (k sg p un:List Int) (S:Nat) (ks:Nat->List Int) (sv:Nat->Nat):(aG prog (fI 1 []) 60 f16 [.aJ false 99 N (aq t),.int .i64 i,.agg (lu u nm k sg p un S ks sv)] []).map (λx=>(x.1,x.2.2))=some (E1 3,aa true (aa true ((bF N λi=>af (aq t i))&&decide (N<=71)&&aM N (ag λi=>af (aq t i))==cN N (ag λi=>af (aq t i))&&gm N (ag λi=>af (aq t i)) i==1))):=by kernel_rfl
theorem ac9 (N:Nat) (t:Nat->aj) (i:Int) (u:Bool) (nm:Int) (k sg p un:List Int) (S:Nat) (ks:Nat->List Int) (sv:Nat->Nat):(aG prog (fI 2 []) 60 f16 [.aJ false 99 N (aq t),.int .i64 i,.agg (lu u nm k sg p un S ks sv)] []).map (λx=>(x.1,x.2.2))=some (E1 9,aa true (aa true ((bF N λi=>af (aq t i))&&decide (N<=71)&&aM N (ag λi=>af (aq t i))==cN N (ag λi=>af (aq t i))&&gm N (ag λi=>af (aq t i)) i==2))):=by kernel_rfl
theorem Xu (N:Nat) (t:Nat->aj) (i:Int) (u:Bool) (nm:Int) (k sg p un:List Int) (S:Nat) (ks:Nat->List Int) (sv:Nat->Nat):(aG prog (fI 0 [(32,true),(43,true),(54,true),(60,true),(67,true)]) 60 f16 [.aJ false 99 N (aq t),.int .i64 i,.agg (lu u nm k sg p un S ks sv)] []).map (λx=>(x.1,x.2.2))=some (E1 3,aa (aa true (aa true ((bF N λi=>af (aq t i))&&decide (N<=71)&&aM N (ag λi=>af (aq t i))==cN N (ag λi=>af (aq t i))&&gm N (ag λi=>af (aq t i)) i==0))) !u):=by kernel_rfl
theorem Xv (N:Nat) (t:Nat->aj) (i:Int) (u:Bool) (nm:Int) (k sg p un:List Int) (S:Nat) (ks:Nat->List Int) (sv:Nat->Nat):(aG prog (fI 0 [(32,false),(43,true),(54,true),(60,true),(67,true)]) 60 f16 [.aJ false 99 N (aq t),.int .i64 i,.agg (lu u nm k sg p un S ks sv)] []).map (λx=>(x.1,x.2.2))=some (E1 3,aa (aa (aa (aa (aa true (aa true ((bF N λi=>af (aq t i))&&decide (N<=71)&&aM N (ag λi=>af (aq t i))==cN N (ag λi=>af (aq t i))&&gm N (ag λi=>af (aq t i)) i==0))) !!u) (aX (i64.wrap (2*i)) N)) (true&&(decide ((i64.wrap (2*i)).toNat<N)&&true))) (nm != (t (i64.wrap (2*i)).toNat).name)):=by kernel_rfl
theorem Xw (N:Nat) (t:Nat->aj) (i:Int) (u:Bool) (nm:Int) (k sg p un:List Int) (S:Nat) (ks:Nat->List Int) (sv:Nat->Nat):(aG prog (fI 0 [(32,false),(43,false),(54,true),(60,true),(67,true)]) 60 f16 [.aJ false 99 N (aq t),.int .i64 i,.agg (lu u nm k sg p un S ks sv)] []).map (λx=>(x.1,x.2.2))=some (E1 3,aa (aa (aa (aa (aa (aa (aa (aa (aa true (aa true ((bF N λi=>af (aq t i))&&decide (N<=71)&&aM N (ag λi=>af (aq t i))==cN N (ag λi=>af (aq t i))&&gm N (ag λi=>af (aq t i)) i==0))) !!u) (aX (i64.wrap (2*i)) N)) (true&&(decide ((i64.wrap (2*i)).toNat<N)&&true))) !nm != (t (i64.wrap (2*i)).toNat).name) (aX (i64.wrap (2*i)) N)) (true&&(decide ((i64.wrap (2*i)).toNat<N)&&true))) (aa (decide (sg.length=32)) (decide ((t (i64.wrap (2*i)).toNat).sign.length=32)))) !decide (sg=(t (i64.wrap (2*i)).toNat).sign)):=by kernel_rfl
theorem Xx (N:Nat) (t:Nat->aj) (i:Int) (u:Bool) (nm:Int) (k sg p un:List Int) (S:Nat) (ks:Nat->List Int) (sv:Nat->Nat):(aG prog (fI 0 [(32,false),(43,false),(54,false),(60,true),(67,true)]) 60 f16 [.aJ false 99 N (aq t),.int .i64 i,.agg (lu u nm k sg p un S ks sv)] []).map (λx=>(x.1,x.2.2))=some (E1 3,aa (aa (aa (aa (aa (aa (aa (aa (aa (aa true (aa true ((bF N λi=>af (aq t i))&&decide (N<=71)&&aM N (ag λi=>af (aq t i))==cN N (ag λi=>af (aq t i))&&gm N (ag λi=>af (aq t i)) i==0))) !!u) (aX (i64.wrap (2*i)) N)) (true&&(decide ((i64.wrap (2*i)).toNat<N)&&true))) !nm != (t (i64.wrap (2*i)).toNat).name) (aX (i64.wrap (2*i)) N)) (true&&(decide ((i64.wrap (2*i)).toNat<N)&&true))) (aa (decide (sg.length=32)) (decide ((t (i64.wrap (2*i)).toNat).sign.length=32)))) !!decide (sg=(t (i64.wrap (2*i)).toNat).sign)) (decide (((un.length:Nat):Int)>0))):=by kernel_rfl
theorem Xy (N:Nat) (t:Nat->aj) (i:Int) (u:Bool) (nm:Int) (k sg p un:List Int) (S:Nat) (ks:Nat->List Int) (sv:Nat->Nat):(aG prog (fI 0 [(32,false),(43,false),(54,false),(60,false),(67,true)]) 60 f16 [.aJ false 99 N (aq t),.int .i64 i,.agg (lu u nm k sg p un S ks sv)] []).map (λx=>(x.1,x.2.2))=some (E1 3,aa (aa (aa (aa (aa (aa (aa (aa (aa (aa (aa true (aa true ((bF N λi=>af (aq t i))&&decide (N<=71)&&aM N (ag λi=>af (aq t i))==cN N (ag λi=>af (aq t i))&&gm N (ag λi=>af (aq t i)) i==0))) !!u) (aX (i64.wrap (2*i)) N)) (true&&(decide ((i64.wrap (2*i)).toNat<N)&&true))) !nm != (t (i64.wrap (2*i)).toNat).name) (aX (i64.wrap (2*i)) N)) (true&&(decide ((i64.wrap (2*i)).toNat<N)&&true))) (aa (decide (sg.length=32)) (decide ((t (i64.wrap (2*i)).toNat).sign.length=32)))) !!decide (sg=(t (i64.wrap (2*i)).toNat).sign)) !decide (((un.length:Nat):Int)>0)) (((S:Nat):Int) != (((rQ (λx=>x.fst) N (ag λi=>af (aq t i)) i).length:Nat):Int))):=by kernel_rfl
theorem ada (N:Nat) (t:Nat->aj) (i:Int) (u:Bool) (nm:Int) (k sg p un:List Int) (S:Nat) (ks:Nat->List Int) (sv:Nat->Nat):aA (ah [0,1,5,8,9,12,13,14] 2 ((aE prog (fI 0 [(32,false),(43,false),(54,false),(60,false),(67,false)]) 60 0 9 (atoms Ab) ⟨aD f16.ntmps [.aJ false 99 N (aq t),.int .i64 i,.agg (lu u nm k sg p un S ks sv)],[],true⟩).map λs=>(Exit.normal,s)))=some (.normal,rpT N t i cT 0,[.b (lu u nm k sg p un S ks sv),.b (UT u nm k sg p un)]):=by kernel_rfl
theorem Xz (N:Nat) (t:Nat->aj) (i:Int) (u:Bool) (nm:Int) (k sg p un:List Int) (S:Nat) (ks:Nat->List Int) (sv:Nat->Nat):aZ (ah [0,1,5,8,9,12,13,14] 2 ((aE prog (fI 0 [(32,false),(43,false),(54,false),(60,false),(67,false)]) 60 0 9 (atoms Ab) ⟨aD f16.ntmps [.aJ false 99 N (aq t),.int .i64 i,.agg (lu u nm k sg p un S ks sv)],[],true⟩).map λs=>(Exit.normal,s)))=(aa (aa (aa (aa (aa (aa (aa (aa (aa (aa (aa true (aa true ((bF N λi=>af (aq t i))&&decide (N<=71)&&aM N (ag λi=>af (aq t i))==cN N (ag λi=>af (aq t i))&&gm N (ag λi=>af (aq t i)) i==0))) !!u) (aX (i64.wrap (2*i)) N)) (true&&(decide ((i64.wrap (2*i)).toNat<N)&&true))) !nm != (t (i64.wrap (2*i)).toNat).name) (aX (i64.wrap (2*i)) N)) (true&&(decide ((i64.wrap (2*i)).toNat<N)&&true))) (aa (decide (sg.length=32)) (decide ((t (i64.wrap (2*i)).toNat).sign.length=32)))) !!decide (sg=(t (i64.wrap (2*i)).toNat).sign)) !decide (((un.length:Nat):Int)>0)) !((S:Nat):Int) != (((rQ (λx=>x.fst) N (ag λi=>af (aq t i)) i).length:Nat):Int)):=by kernel_rfl
theorem adb (N:Nat) (t:Nat->aj) (i:Int) (u:Bool) (nm:Int) (k sg p un:List Int) (S:Nat) (ks:Nat->List Int) (sv:Nat->Nat) (n:Nat) (j:Int):aA (ah [0,1,5,8,9,12,13,14] 3 (exec prog (fI 0 [(72,true)]) 60 0 (inner (inner (au 9 Ab))) (fB N t i u nm k sg p un S ks sv n j)))=some (.normal,(fB N t i u nm k sg p un S ks sv (n+1) (i64.wrap (j+1))).t,[.b (lu u nm k sg p un S ks sv),.b (UT u nm k sg p un),.b [.rows 32 (n+1) λi=>br (Nat.ble (i+1) n) (gF ks i) [.ints .u8 32 (ks j.toNat)]]]):=by kernel_rfl
theorem XA (N:Nat) (t:Nat->aj) (i:Int) (u:Bool) (nm:Int) (k sg p un:List Int) (S:Nat) (ks:Nat->List Int) (sv:Nat->Nat) (n:Nat) (j:Int):aZ (ah [0,1,5,8,9,12,13,14] 3 (exec prog (fI 0 [(72,true)]) 60 0 (inner (inner (au 9 Ab))) (fB N t i u nm k sg p un S ks sv n j)))=(aa (aa (aa (aa true (decide (j<((S:Nat):Int)))) (aX j S)) (true&&(decide (j.toNat<S)&&true))) (aa (aa true (decide (n<=n))) (decide (n+1<=2^38)))):=by kernel_rfl
theorem ade (N:Nat) (t:Nat->aj) (i:Int) (u:Bool) (nm:Int) (k sg p un:List Int) (S:Nat) (ks:Nat->List Int) (sv:Nat->Nat) (n:Nat) (j:Int):aA (ah [0,1,5,8,9,12,13,14] 3 (exec prog (fI 0 [(72,false)]) 60 0 (inner (inner (au 9 Ab))) (fB N t i u nm k sg p un S ks sv n j)))=some (.exit 0,(fB N t i u nm k sg p un S ks sv n j).t,(fB N t i u nm k sg p un S ks sv n j).h):=by kernel_rfl
theorem XB (N:Nat) (t:Nat->aj) (i:Int) (u:Bool) (nm:Int) (k sg p un:List Int) (S:Nat) (ks:Nat->List Int) (sv:Nat->Nat) (n:Nat) (j:Int):aZ (ah [0,1,5,8,9,12,13,14] 3 (exec prog (fI 0 [(72,false)]) 60 0 (inner (inner (au 9 Ab))) (fB N t i u nm k sg p un S ks sv n j)))=(aa true !decide (j<((S:Nat):Int))):=by kernel_rfl
theorem adf (N:Nat) (t:Nat->aj) (i:Int) (u:Bool) (nm:Int) (k sg p un:List Int) (S:Nat) (ks:Nat->List Int) (sv:Nat->Nat):aA (ah [6,7] 0 (cn prog (fI 0 [(100,false)]) 60 0 ((atoms Ab).drop 10) (Xt N t i u nm k sg p un S ks sv)))=some (.ret,slotsOf 102 [(6,.aJ true 99 N (aq (iw N t i ks k))),(7,.int .i64 0)],[]):=by kernel_rfl
theorem XC (N:Nat) (t:Nat->aj) (i:Int) (u:Bool) (nm:Int) (k sg p un:List Int) (S:Nat) (ks:Nat->List Int) (sv:Nat->Nat):aZ (ah [6,7] 0 (cn prog (fI 0 [(100,false)]) 60 0 ((atoms Ab).drop 10) (Xt N t i u nm k sg p un S ks sv)))=(aa (aa (aa (aa (aa true (aa true ((bF N λi=>af (aq t i))&&decide (N<=71)&&gm N (ag λi=>af (aq t i)) i==0&&e9 N (ag λi=>af (aq t i))&&decide (rQ (λx=>x.fst) N t i=rQ (λx=>x.fst) N (ag λi=>af (aq t i)) i)&&decide (rQ (λx=>x.snd.fst) N t i=rQ (λx=>x.snd.fst) N (ag λi=>af (aq t i)) i)&&decide (S=iF N (ag λi=>af (aq t i)) i)&&decide ((λi=>af (gF ks i))=gF (gY λi=>af (gF ks i)))&&Aa S (gY λi=>af (gF ks i))&&decide (kA k)))) (aX (i64.wrap (2*i)) N)) (true&&(decide ((i64.wrap (2*i)).toNat<N)&&true))) (aa (decide ((iw N (ag λi=>af (aq t i)) i (gY λi=>af (gF ks i)) k (i64.wrap (2*i)).toNat).par.length=32)) (decide (p.length=32)))) !!decide ((iw N (ag λi=>af (aq t i)) i (gY λi=>af (gF ks i)) k (i64.wrap (2*i)).toNat).par=p)):=by kernel_rfl
theorem QS (N:Nat) (t:Nat->aj) (i:Int) (u:Bool) (nm:Int) (k sg p un:List Int) (S:Nat) (ks:Nat->List Int) (sv:Nat->Nat):aA (ah [6,7] 0 (cn prog (fI 0 [(100,true)]) 60 0 ((atoms Ab).drop 10) (Xt N t i u nm k sg p un S ks sv)))=some (.ret,slotsOf 102 [(6,cT),(7,.int .i64 2)],[]):=by kernel_rfl
theorem XD (N:Nat) (t:Nat->aj) (i:Int) (u:Bool) (nm:Int) (k sg p un:List Int) (S:Nat) (ks:Nat->List Int) (sv:Nat->Nat):aZ (ah [6,7] 0 (cn prog (fI 0 [(100,true)]) 60 0 ((atoms Ab).drop 10) (Xt N t i u nm k sg p un S ks sv)))=(aa (aa (aa (aa (aa true (aa true ((bF N λi=>af (aq t i))&&decide (N<=71)&&gm N (ag λi=>af (aq t i)) i==0&&e9 N (ag λi=>af (aq t i))&&decide (rQ (λx=>x.fst) N t i=rQ (λx=>x.fst) N (ag λi=>af (aq t i)) i)&&decide (rQ (λx=>x.snd.fst) N t i=rQ (λx=>x.snd.fst) N (ag λi=>af (aq t i)) i)&&decide (S=iF N (ag λi=>af (aq t i)) i)&&decide ((λi=>af (gF ks i))=gF (gY λi=>af (gF ks i)))&&Aa S (gY λi=>af (gF ks i))&&decide (kA k)))) (aX (i64.wrap (2*i)) N)) (true&&(decide ((i64.wrap (2*i)).toNat<N)&&true))) (aa (decide ((iw N (ag λi=>af (aq t i)) i (gY λi=>af (gF ks i)) k (i64.wrap (2*i)).toNat).par.length=32)) (decide (p.length=32)))) !decide ((iw N (ag λi=>af (aq t i)) i (gY λi=>af (gF ks i)) k (i64.wrap (2*i)).toNat).par=p)):=by kernel_rfl
section
variable {N:Nat} {t:Nat->aj} {i:Int} {u:Bool} {nm:Int} {k sg p un:List Int} {S:Nat} {ks:Nat->List Int} {sv:Nat->Nat}
theorem Ct (f:Int×Int×Int->Int):(rQ f N t i).length=iF N t i:=jI f _
theorem D9 (hT:cF N t) (hg:aM N t=cN N t) (h:gm N t i=0) (hs:sg.length=32) (hf:x2 N t i u nm sg un S=false):ai prog 16 (vg N t i u nm k sg p un S ks sv) [] (E1 3) []:=by
 obtain ⟨x,hi,_,hx,w1,w2⟩:=qD hT h
 have hok:bF N (λi=>af (aq t i))=true:=bq hT
 have ht:(ag λi=>af (aq t i))=t:=rfl
 have hg':(aM N t==cN N t)=true:=aaS.2 hg
 have l:=hT.sign _ hx
 unfold x2 at hf
 rw [w2] at hf
 cases hu:u with
 |false=>
  subst hu
  exact aI (bU _ _) 60 func16 (Xu N t i false nm k sg p un S ks sv) (by rw [ht,hg',hok,Me hT.le,h];rfl) rfl
 |true=>
 subst hu
 cases h1:(nm != (t (2*x)).name) with
 |true=>exact aI (bU _ _) 60 func16 (Xv N t i true nm k sg p un S ks sv) (by rw [ht,hg',hok,Me hT.le,w1,bf hx,aaa,Me hx,h,h1];rfl) rfl
 |false=>
 cases h2:decide (sg=(t (2*x)).sign) with
 |false=>exact aI (bU _ _) 60 func16 (Xw N t i true nm k sg p un S ks sv) (by rw [ht,hg',hok,Me hT.le,w1,bf hx,aaa,Me hx,h,h1,h2,Me hs,Me l];rfl) rfl
 |true=>
 cases h3:decide (((un.length:Nat):Int)>0) with
 |true=>exact aI (bU _ _) 60 func16 (Xx N t i true nm k sg p un S ks sv) (by rw [ht,hg',hok,Me hT.le,w1,bf hx,aaa,Me hx,h,h1,h2,h3,Me hs,Me l];rfl) rfl
 |false=>
 cases h4:(((S:Nat):Int) != ((iF N t i:Nat):Int)) with
 |true=>exact aI (bU _ _) 60 func16 (Xy N t i true nm k sg p un S ks sv) (by rw [ht,Ct,hg',hok,Me hT.le,w1,bf hx,aaa,Me hx,h,h1,h2,h3,h4,Me hs,Me l];rfl) rfl
 |false=>rw [h1,h2,h3,h4] at hf;cases hf
theorem vP (hT:cF N t) (hg:aM N t=cN N t) (h:gm N t i=0) (hs:sg.length=32) (hf:x2 N t i u nm sg un S=true) (hS:S<=2^37) {s':St}
  (g:aV prog none 0 ((atoms Ab).drop 10) (Xt N t i u nm k sg p un S ks sv) .ret s'):aV prog none 0 (atoms Ab) ⟨aD f16.ntmps (vg N t i u nm k sg p un S ks sv),[],true⟩ .ret s':=by
 obtain ⟨x,hi,_,hx,w1,w2⟩:=qD hT h
 have hok:bF N (λi=>af (aq t i))=true:=bq hT
 have ht:(ag λi=>af (aq t i))=t:=rfl
 have hg':(aM N t==cN N t)=true:=aaS.2 hg
 have l:=hT.sign _ hx
 unfold x2 at hf
 simp only [w2,aac,aaY] at hf
 obtain ⟨⟨⟨⟨f1,f2⟩,f3⟩,f4⟩,f5⟩:=hf
 refine aV.bk (bU _ _) 60 9 _ 2 (aap _) (s1:=⟨rpT N t i cT 0,[.b (lu u nm k sg p un S ks sv),.b (UT u nm k sg p un)],true⟩) _ (ada N t i u nm k sg p un S ks sv) (Xz N t i u nm k sg p un S ks sv) (by rw [ht,Ct,hg',hok,Me hT.le,w1,bf hx,aaa,Me hx,h,f1,f2,f3,f4,f5,Me hs,Me l];rfl) (by decide) rfl ?_
 refine aV.pre (s1:=fB N t i u nm k sg p un S ks sv 0 ((0:Nat):Int)) ?_ (bE.xp 13 rfl 32 (gF ks) false) (by intro q;cases q)
 refine aV.item 9 (by decide) (s1:=fB N t i u nm k sg p un S ks sv S (S:Int)) (Tr.loop 0 (by kernel_rfl) (λj=>fB N t i u nm k sg p un S ks sv j (j:Int)) S (λj hj=>?_) ?_) ?_
 ·have e:=adb N t i u nm k sg p un S ks sv j j
  rw [cq (by omega),aaa] at e
  exact Tr.post (Tr.aR (bU _ _) 60 _ 3 (aap _) (s':=⟨(fB N t i u nm k sg p un S ks sv (j+1) ((j+1:Nat):Int)).t,[.b (lu u nm k sg p un S ks sv),.b (UT u nm k sg p un),.b [.rows 32 (j+1) λi=>br (Nat.ble (i+1) j) (gF ks i) [.ints .u8 32 (ks j)]]],true⟩) _ e (XA N t i u nm k sg p un S ks sv j j) (by rw [fo hj,bf hj,aaa,Me hj,Me (aaf j),Me (show j+1<=2^38 by omega)];rfl)) (bE.vc ⟨PE.refl _,PE.refl _,PE.rows (zj ks j),trivial⟩)
 ·exact Tr.aR (bU _ _) 60 _ 3 (aap _) _ (ade N t i u nm k sg p un S ks sv S S) (XB N t i u nm k sg p un S ks sv S S) (by rw [fA (aaf _)];rfl)
 ·exact aV.pre g (bE.Co 13 2 (aap _) rfl rfl (aaf _) rfl rfl) (by intro q;cases q)
theorem He (hT:cF N t) (hg:aM N t=cN N t) (hb:e9 N t=true) (h:gm N t i=0) (hs:sg.length=32) (hk:kA k) (hp:p.length=32) (hf:x2 N t i u nm sg un S=true) (hS:S<=2^37) (hks:Aa S ks=true):
  (decide ((iw N t i ks k (2*i).toNat).par=p)=true->ai prog 16 (vg N t i u nm k sg p un S ks sv) [] (.bC [.aJ true 99 N (aq (iw N t i ks k)),.int .i64 0]) [])/\
  (decide ((iw N t i ks k (2*i).toNat).par=p)=false->ai prog 16 (vg N t i u nm k sg p un S ks sv) [] (E1 2) []):=by
 obtain ⟨x,hi,_,hx,w1,w2⟩:=qD hT h
 have hok:bF N (λi=>af (aq t i))=true:=bq hT
 have ht:(ag λi=>af (aq t i))=t:=rfl
 have hM:S=iF N t i:=by
  unfold x2 at hf
  simp only [aac,aaY,bne_eq_false_iff_eq] at hf
  have:=hf.2
  omega
 have hl:(iw N t i ks k (2*x)).par.length=32:=by
  obtain ⟨_,_,n,j,hn,hj,hij,hv,hN,_⟩:=rj hT h
  have:j=x:=by omega
  subst this
  unfold iw K8 c7
  rw [hi,hv,aaa,aaa,aaM rfl]
  exact (tX ..).1
 have c1:(gY λi=>af (gF ks i))=ks:=rfl
 have c3:decide ((λi=>af (gF ks i))=gF ks)=true:=Me rfl
 rw [w2]
 refine ⟨λhq=>?_,λhq=>?_⟩
 ·refine ai.mk (vs:=[.aJ true 99 N (aq (iw N t i ks k)),.int .i64 0]) func16 rfl (x:=.ret) (s:=⟨slotsOf 102 [(6,.aJ true 99 N (aq (iw N t i ks k))),(7,.int .i64 0)],[],true⟩) (vP hT hg h hs hf hS ?_) (.inl rfl) (by kernel_rfl)
  refine aV.og (bU _ _) 60 _ 0 (aap _) _ (adf N t i u nm k sg p un S ks sv) (XC N t i u nm k sg p un S ks sv) ?_ (by intro q;cases q)
  rw [ht,c1,c3,hok,hb,h,w1,aaa,bf hx,hq,Me hl,Me hk,Me hp,Me hx,Me hT.le,Me hM,Me (Eq.refl (rQ (λx=>x.fst) N t i)),Me (Eq.refl (rQ (λx=>x.snd.fst) N t i)),hks];rfl
 ·refine ai.mk (vs:=[cT,.int .i64 2]) func16 rfl (x:=.ret) (s:=⟨slotsOf 102 [(6,cT),(7,.int .i64 2)],[],true⟩) (vP hT hg h hs hf hS ?_) (.inl rfl) (by kernel_rfl)
  refine aV.og (bU _ _) 60 _ 0 (aap _) _ (QS N t i u nm k sg p un S ks sv) (XD N t i u nm k sg p un S ks sv) ?_ (by intro q;cases q)
  rw [ht,c1,c3,hok,hb,h,w1,aaa,bf hx,hq,Me hl,Me hk,Me hp,Me hx,Me hT.le,Me hM,Me (Eq.refl (rQ (λx=>x.fst) N t i)),Me (Eq.refl (rQ (λx=>x.snd.fst) N t i)),hks];rfl
def rpV (b N:Nat) (t:Nat->aj) (i:Int) (ks:Nat->List Int) (k:List Int):SV:=match b with
 |0=>.bC [.aJ true 99 N (aq (iw N t i ks k)),.int .i64 0]
 |1=>E1 3
 |2=>E1 9
 |_=>E1 2
theorem Li (hT:cF N t) (hg:aM N t=cN N t) (hb:e9 N t=true) (hs:sg.length=32) (hk:kA k) (hp:p.length=32) (hS:S<=2^37) (hks:Aa S ks=true):ai prog 16 (vg N t i u nm k sg p un S ks sv) [] (rpV (G1 N t i u nm sg un S ks k p) N t i ks k) []:=by
 have hok:bF N (λi=>af (aq t i))=true:=bq hT
 have ht:(ag λi=>af (aq t i))=t:=rfl
 have hg':(aM N t==cN N t)=true:=aaS.2 hg
 unfold G1
 cases hw:gm N t i with
 |zero=>
  cases hf:x2 N t i u nm sg un S with
  |false=>exact D9 hT hg hw hs hf
  |true=>
   obtain ⟨g1,g2⟩:=He (sv:=sv) hT hg hb hw hs hk hp hf hS hks
   cases hq:decide ((iw N t i ks k (2*i).toNat).par=p) with
   |true=>exact g1 hq
   |false=>exact g2 hq
 |succ w=>
  cases w with
  |zero=>exact aI (bU _ _) 60 func16 (ac8 N t i u nm k sg p un S ks sv) (by rw [ht,hg',hok,Me hT.le,hw];rfl) rfl
  |succ w=>
   have:gm N t i=2:=by
    have:gm N t i<=2:=by unfold gm;cases aM N t<;>cases rL N t i<;>decide
    omega
   exact aI (bU _ _) 60 func16 (ac9 N t i u nm k sg p un S ks sv) (by rw [ht,hg',hok,Me hT.le,this];rfl) rfl
end
end Go.Proofs.YthlnlcijnoadcaaGreatDoor.Pa
