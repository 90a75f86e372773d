/- This file holds the texts TtA, TtB, a section each. No conditions beyond those in the theorems. -/
import Derived.Test.YthlnlcijnoadcaaGreatDoorGTsN
import Derived.Test.YthlnlcijnoadcaaGreatDoorGSxF
noncomputable section
open Go.Proofs.Tryz
open Go.IntKind (i64 u8 u64 u32)
set_option linter.all false
set_option maxRecDepth 100000
section
namespace Go.Proofs.YthlnlcijnoadcaaGreatDoor.Tr
open Go Go.Sy
def nF (t:Nat->aj):Nat->Nat->List Int
 |0,x=>bif (t x).used then ((x:Nat):Int)::(t x).un.map (2* ·) else []
 |k+1,x=>bif (t x).used then ((x:Nat):Int)::(t x).un.map (2* ·) else nF t k (x-2^k)++nF t k (x+2^k)
def aW (t:Nat->aj) (x:Int):List Int:=nF t (iM 7 x.toNat) x.toNat
def TW (N:Nat) (t:Nat->aj):Bool:=(List.range N).all λx=>decide ((t x).un.length<=64)&&(t x).un.all λu=>decide (0<=u)&&decide (u<64)
def ri (N:Nat):Bool:=sizes.any λm=>decide (N=2*m-1)
def eM (N:Nat) (t:Nat->aj) (x:Int) (k:Nat):Bool:=TW N t&&ri N&&decide (0<=x)&&decide (x<N)&&decide (iM 7 x.toNat<k)
def NJ (k:Nat):List SV->Option (SV×List Blk×Bool)
 | [.aJ false 99 N g,.int .i64 x]=>some (.sl 0 0 0 1 (aW (ag g) x).length (aW (ag g) x).length false true,[.b [.ints .i64 (aW (ag g) x).length (aW (ag g) x)]],bF N g&&decide (N<=71)&&eM N (ag g) x k)
 |_=>none
def jk (k:Nat):Prop:=∀(N:Nat) (t:Nat->aj) (x:Int),cF N t->eM N t x k=true->
 ai prog 148 [.aJ false 99 N (aq t),.int .i64 x] [] (.sl 0 0 0 1 (aW t x).length (aW t x).length false true) [.b [.ints .i64 (aW t x).length (aW t x)]]
def Zz (k:Nat) (ih:jk k):Entry prog:=.val 148 _ func148 (by decide) rfl true 1 (NJ k) λvs v new e=>by
 unfold NJ at e
 split at e
 ·simp only [No,aae,aac,aab] at e
  obtain ⟨rfl,rfl,⟨h1,h2⟩,h3⟩:=e
  exact ai.conv (ih _ _ _ (cF.of h1 h2) h3) ⟨VE.tree h1,VE.refl _,trivial⟩ trivial (VE.refl _) ⟨PE.refl _,trivial⟩
 ·cases e
def JC (k:Nat) (ih:jk k) (l:List (Nat×Bool)):bO:=mk (P:=prog) [gD,Zz k ih] [] (uT l)
theorem oC (k:Nat) (ih:jk k) (l:List (Nat×Bool)):ak prog (JC k ih l):=az _ aL.nil _ _
def rvB:Code:=aP f148
def TX:Code:=Yy (au 2 rvB)
def rv0 (N:Nat) (t:Nat->aj) (x:Int):St:=⟨slotsOf 48 [(0,.aJ false 99 N (aq t)),(1,.int .i64 x),(14,.bool true)],[],true⟩
def EO (un xs:List Int) (n:Nat) (ex:Bool) (j:Int):St:=⟨slotsOf 48 [(5,.sl 0 0 0 1 n n ex true),(21,.ro false .i64 un),(22,.int .i64 un.length),(23,.int .i64 j)],[.b [.ints .i64 n xs]],true⟩
theorem NK (N:Nat) (t:Nat->aj) (x:Int) (k:Nat) (ih:jk k):aA (ah [0,1,14] 0 ((aE prog (JC k ih [(14,true)]) 60 0 2 (atoms rvB) ⟨aD f148.ntmps [.aJ false 99 N (aq t),.int .i64 x],[],true⟩).map λs=>(Exit.normal,s)))=some (.normal,(rv0 N t x).t,[]):=by kernel_rfl
theorem JD (N:Nat) (t:Nat->aj) (x:Int) (k:Nat) (ih:jk k):aZ (ah [0,1,14] 0 ((aE prog (JC k ih [(14,true)]) 60 0 2 (atoms rvB) ⟨aD f148.ntmps [.aJ false 99 N (aq t),.int .i64 x],[],true⟩).map λs=>(Exit.normal,s)))=(aa (aa (aa true (aX x N)) (true&&(decide (x.toNat<N)&&true))) (t x.toNat).1):=by kernel_rfl
theorem TY (N:Nat) (t:Nat->aj) (x:Int) (k:Nat) (ih:jk k):aA (ah [5,21,22,23] 1 ((aE prog (JC k ih []) 60 0 2 (atoms TX) (rv0 N t x)).map λs=>(Exit.normal,s)))=some (.normal,(EO (t x.toNat).un [x] 1 true 0).t,(EO (t x.toNat).un [x] 1 true 0).h):=by kernel_rfl
theorem NL (N:Nat) (t:Nat->aj) (x:Int) (k:Nat) (ih:jk k):aZ (ah [5,21,22,23] 1 ((aE prog (JC k ih []) 60 0 2 (atoms TX) (rv0 N t x)).map λs=>(Exit.normal,s)))=(aa (aa true (aX x N)) (true&&(decide (x.toNat<N)&&true))):=by kernel_rfl
theorem TZ (un xs:List Int) (n:Nat) (j:Int) (k:Nat) (ih:jk k):aA (ah [5,21,22,23] 1 (exec prog (JC k ih [(24,true)]) 60 0 (inner (inner (au 2 TX))) (EO un xs n false j)))=some (.normal,(EO un (xs++[i64.wrap (2*un.getD j.toNat 0)]) (n+1) false (i64.wrap (j+1))).t,(EO un (xs++[i64.wrap (2*un.getD j.toNat 0)]) (n+1) false (i64.wrap (j+1))).h):=by kernel_rfl
theorem NM (un xs:List Int) (n:Nat) (j:Int) (k:Nat) (ih:jk k):aZ (ah [5,21,22,23] 1 (exec prog (JC k ih [(24,true)]) 60 0 (inner (inner (au 2 TX))) (EO un xs n false j)))=(aa (aa (aa (aa true (decide (j<((un.length:Nat):Int)))) (aX j un.length)) (decide (j.toNat<un.length))) (aa (aa (aa (aa (decide (((List.replicate 1 0).set 0 (i64.wrap (2*un.getD j.toNat 0))).length=1)&&true) (decide (xs.length=n)&&(decide (n<=n)&&true))) (decide (xs.length=n))) true) (decide (n+1<=2^38)))):=by kernel_rfl
theorem T0 (un xs:List Int) (n:Nat) (j:Int) (k:Nat) (ih:jk k):aA (ah [5] 1 (exec prog (JC k ih [(24,false)]) 60 0 (inner (inner (au 2 TX))) (EO un xs n false j)))=some (.exit 0,slotsOf 48 [(5,.sl 0 0 0 1 n n false true)],[.b [.ints .i64 n xs]]):=by kernel_rfl
theorem NN (un xs:List Int) (n:Nat) (j:Int) (k:Nat) (ih:jk k):aZ (ah [5] 1 (exec prog (JC k ih [(24,false)]) 60 0 (inner (inner (au 2 TX))) (EO un xs n false j)))=(aa true !decide (j<((un.length:Nat):Int))):=by kernel_rfl
theorem T1 (N:Nat) (t:Nat->aj) (x:Int) (k:Nat) (ih:jk k):(aG prog (JC k ih [(14,false),(40,true)]) 60 f148 [.aJ false 99 N (aq t),.int .i64 x] []).map (λx=>(x.1,x.2.2))=some (.nl (.slice none 0 0),aa (aa (aa (aa (aa true (aX x N)) (true&&(decide (x.toNat<N)&&true))) !(t x.toNat).1) (aa true (decide (0<=x)&&decide (x<64)))) (decide (aN x<0))):=by kernel_rfl
theorem T4 (N:Nat) (t:Nat->aj) (x:Int) (k:Nat) (ih:jk k):(aG prog (JC k ih [(14,false),(40,false)]) 60 f148 [.aJ false 99 N (aq t),.int .i64 x] [])=some (.sl 0 0 0 1 ((aW t (aN x)).length+(aW t (aH x)).length) ((aW t (aN x)).length+(aW t (aH x)).length) false true,[.b [.ints .i64 ((aW t (aN x)).length+(aW t (aH x)).length) (aW t (aN x)++aW t (aH x))],.b [.ints .i64 (aW t (aH x)).length (aW t (aH x))]],aa (aa (aa (aa (aa (aa (aa (aa true (aX x N)) (true&&(decide (x.toNat<N)&&true))) !(t x.toNat).1) (aa true (decide (0<=x)&&decide (x<64)))) !decide (aN x<0)) (aa true ((bF N λi=>af (aq t i))&&decide (N<=71)&&eM N (ag λi=>af (aq t i)) (aN x) k))) (aa true ((bF N λi=>af (aq t i))&&decide (N<=71)&&eM N (ag λi=>af (aq t i)) (aH x) k))) (aa (aa (aa (decide ((aW (ag λi=>af (aq t i)) (aH x)).length=(aW (ag λi=>af (aq t i)) (aH x)).length)&&(decide ((aW (ag λi=>af (aq t i)) (aH x)).length<=(aW (ag λi=>af (aq t i)) (aH x)).length)&&true)) (decide ((aW (ag λi=>af (aq t i)) (aN x)).length=(aW (ag λi=>af (aq t i)) (aN x)).length)&&(decide ((aW (ag λi=>af (aq t i)) (aN x)).length<=(aW (ag λi=>af (aq t i)) (aN x)).length)&&true))) (decide ((aW (ag λi=>af (aq t i)) (aN x)).length=(aW (ag λi=>af (aq t i)) (aN x)).length))) (decide ((aW (ag λi=>af (aq t i)) (aN x)).length+(aW (ag λi=>af (aq t i)) (aH x)).length<=2^38)))):=by kernel_rfl
theorem nq {t:Nat->aj} {k x:Nat} (h:(t x).used=true):nF t k x=((x:Nat):Int)::(t x).un.map (2* ·):=by
 cases k<;>(unfold nF;rw [h];rfl)
theorem qN {t:Nat->aj} {x:Nat} (h:(t x).used=false):nF t 0 x=[]:=by unfold nF;rw [h];rfl
theorem qP {t:Nat->aj} {k x:Nat} (h:(t x).used=false):nF t (k+1) x=nF t k (x-2^k)++nF t k (x+2^k):=by rw [nF,h];rfl
def T5 (n x:Nat):Bool:=match iM 7 x with
 |0=>aN ((x:Nat):Int)==-1&&aH ((x:Nat):Int)==-1
 |k+1=>aN ((x:Nat):Int)==((x-2^k:Nat):Int)&&aH ((x:Nat):Int)==((x+2^k:Nat):Int)&&decide (x-2^k<2*n-1)&&decide (x+2^k<2*n-1)&&iM 7 (x-2^k)==k&&iM 7 (x+2^k)==k&&decide (2^k<=x)
theorem C5:(sizes.all λn=>(List.range (2*n-1)).all λx=>T5 n x)=true:=by decide+kernel
theorem pK {n x:Nat} (hn:n∈sizes) (hx:x<2*n-1) (hk:iM 7 x=0):aN (x:Int)=-1/\aH (x:Int)=-1:=by
 have h:=aah.1 (aah.1 C5 n hn) x (aan.2 hx)
 unfold T5 at h
 rw [hk] at h
 simpa using h
theorem je {n x k:Nat} (hn:n∈sizes) (hx:x<2*n-1) (hk:iM 7 x=k+1):aN (x:Int)=((x-2^k:Nat):Int)/\aH (x:Int)=((x+2^k:Nat):Int)/\x-2^k<2*n-1/\x+2^k<2*n-1/\iM 7 (x-2^k)=k/\iM 7 (x+2^k)=k/\2^k<=x:=by
 have h:=aah.1 (aah.1 C5 n hn) x (aan.2 hx)
 unfold T5 at h
 rw [hk] at h
 simp only [aac,aaS,aab] at h
 obtain ⟨⟨⟨⟨⟨⟨h1,h2⟩,h3⟩,h4⟩,h5⟩,h6⟩,h7⟩:=h
 exact ⟨h1,h2,h3,h4,h5,h6,h7⟩
theorem y9 {N:Nat} {t:Nat->aj} (h:TW N t=true) {x:Nat} (hx:x<N):(t x).un.length<=64/\∀u∈(t x).un,0<=u/\u<64:=by
 have g:=aah.1 h x (aan.2 hx)
 simp only [aac,aab,aah] at g
 exact g
theorem p5 {N:Nat} {t:Nat->aj} {n:Nat} (hu:TW N t=true) (hn:n∈sizes) (hN:N=2*n-1):∀(k x:Nat),x<N->iM 7 x=k->(nF t k x).length<=65*2^k:=by
 intro k
 induction k with
 |zero=>
  intro x hx hk
  cases h:(t x).used with
  |true=>rw [nq h];have:=(y9 hu hx).1;simp;omega
  |false=>rw [qN h];simp
 |succ k ih=>
  intro x hx hk
  cases h:(t x).used with
  |true=>
   rw [nq h];have:=(y9 hu hx).1
   have:1<=2^(k+1):=Nat.one_le_two_pow
   simp;omega
  |false=>
   obtain ⟨_,_,h3,h4,h5,h6,_⟩:=je hn (hN▸hx) hk
   rw [qP h,aar]
   have a:=ih _ (by omega) h5
   have b:=ih _ (by omega) h6
   rw [Nat.pow_succ];omega
theorem tL:∀f x,iM f x<=f:=by
 intro f
 induction f with
 |zero=>intro x;exact aaf _
 |succ f ih=>intro x;unfold iM;split<;>(have:=ih (x/2);omega)
theorem getD_map {l:List Int} {j:Nat} (h:j<l.length):(l.take j).map (2* ·)++[2*l.getD j 0]=(l.take (j+1)).map (2* ·):=by
 rw [List.take_add_one,aai h,List.map_append,bY h];rfl
section
variable {N n k:Nat} {t:Nat->aj} {x:Nat}
theorem NO (ih:jk k) (hT:cF N t) (hu:TW N t=true) (hx:x<N) (h:(t x).used=true):
  ai prog 148 [.aJ false 99 N (aq t),.int .i64 x] [] (.sl 0 0 0 1 (aW t x).length (aW t x).length false true) [.b [.ints .i64 (aW t x).length (aW t x)]]:=by
 obtain ⟨hl,hr⟩:=y9 hu hx
 have hR:aW t x=(x:Int)::(t x).un.map (2* ·):=nq h
 have hlen:(aW t x).length=1+(t x).un.length:=by rw [hR,adY,List.length_map];omega
 have hin:aX (x:Int) N=true:=bf hx
 rw [hlen,hR]
 refine ai.mk (vs:=[.sl 0 0 0 1 (1+(t x).un.length) (1+(t x).un.length) false true]) func148 rfl (x:=.ret) (s:=⟨slotsOf 48 [(5,.sl 0 0 0 1 (1+(t x).un.length) (1+(t x).un.length) false true),(33,.sl 0 0 0 1 (1+(t x).un.length) (1+(t x).un.length) false true),(4,.sl 0 0 0 1 (1+(t x).un.length) (1+(t x).un.length) false true)],[.b [.ints .i64 (1+(t x).un.length) ((x:Int)::(t x).un.map (2* ·))]],true⟩) ?_ (.inl rfl) (by kernel_rfl)
 refine aV.bk (oC k ih [(14,true)]) 60 2 _ 0 (aaf _) (s1:=rv0 N t x) _ (NK N t x k ih) (JD N t x k ih) (by rw [aaa,hin,Me hx,show (t x).1=true from h];rfl) (by decide) rfl ?_
 refine aV.leave 2 (by decide) (by simp) ?_
 rw [show au 2 (aP f148)= .cond (.tmp 14) TX .skip by kernel_rfl]
 refine Tr.cond_true rfl (Tr.dr ?_)
 have em:=TY N t x k ih
 rw [aaa] at em
 refine aV.bk (oC k ih []) 60 2 _ 1 (aap _) (s1:=EO (t x).un [(x:Int)] 1 true 0) _ em (NL N t x k ih) (by rw [aaa,hin,Me hx];rfl) (by decide) rfl ?_
 refine aV.pre (s1:=EO (t x).un ((x:Int)::((t x).un.take 0).map (2* ·)) (1+0) false ((0:Nat):Int)) ?_ ?_ (by intro q;cases q)
 ·refine aV.item 2 (by decide) (s1:=⟨slotsOf 48 [(5,.sl 0 0 0 1 (1+(t x).un.length) (1+(t x).un.length) false true)],[.b [.ints .i64 (1+(t x).un.length) ((x:Int)::(t x).un.map (2* ·))]],true⟩) (Tr.loop 0 (by kernel_rfl) (λj=>EO (t x).un ((x:Int)::((t x).un.take j).map (2* ·)) (1+j) false ((j:Nat):Int)) (t x).un.length (λj hj=>?_) ?_) ?_
  ·have e:=TZ (t x).un ((x:Int)::((t x).un.take j).map (2* ·)) (1+j) j k ih
   have hg:=hr ((t x).un.getD j 0) (by rw [bY hj];exact List.getElem_mem hj)
   rw [aaa,cg (by omega) (by omega),cq (by omega),List.cons_append,getD_map hj,show 1+j+1=1+(j+1) by omega] at e
   refine Tr.aR (oC k ih [(24,true)]) 60 _ 1 (aap _) (s':=EO (t x).un ((x:Int)::((t x).un.take (j+1)).map (2* ·)) (1+(j+1)) false ((j+1:Nat):Int)) _ e (NM _ _ _ _ k ih) ?_
   rw [fo hj,bf hj,aaa,Me hj,Me (aaf (1+j)),Me (show ((x:Int)::((t x).un.take j).map (2* ·)).length=1+j by simp;omega),Me (show 1+j+1<=2^38 by omega)]
   rfl
  ·have e:=T0 (t x).un ((x:Int)::((t x).un.take (t x).un.length).map (2* ·)) (1+(t x).un.length) (t x).un.length k ih
   rw [adA] at e
   rw [adA]
   exact Tr.aR (oC k ih [(24,false)]) 60 _ 1 (aap _) _ e (NN (t x).un ((x:Int)::(t x).un.map (2* ·)) (1+(t x).un.length) (t x).un.length k ih) (by rw [fA (aaf _)];rfl)
  ·exact aV.rest (oC k ih []) 60 (by kernel_rfl) rfl
 ·exact bE.slot (t:=(EO (t x).un [(x:Int)] 1 true 0).t) 5 (v:=.sl 0 0 0 1 1 1 true true) rfl (VE.Ik 0 0 0 1 1 1 true)
theorem ko {N:Nat} (h:ri N=true):∃n∈sizes,N=2*n-1:=by
 obtain ⟨n,hn,q⟩:=aaT.1 h
 exact ⟨n,hn,abB q⟩
theorem mR (hu:TW N t=true) (ht:ri N=true) {y:Nat} (hy:y<N) (hk:iM 7 y<k):eM N t (y:Int) k=true:=by
 unfold eM
 rw [hu,ht,aaa,Me hk,Me (show (y:Int)<N by omega),Me (show (0:Int)<=y by omega)];rfl
theorem BE:∀k,jk k:=by
 intro k
 induction k with
 |zero=>
  intro N t x hT h
  simp [eM] at h
 |succ k ih=>
  intro N t x hT h
  unfold eM at h
  simp only [aac,aab] at h
  obtain ⟨⟨⟨⟨hu,ht⟩,h0⟩,hx⟩,hk⟩:=h
  obtain ⟨y,rfl⟩:=aaB h0
  rw [aaa] at hk
  have hx:y<N:=by omega
  obtain ⟨n,hn,hN⟩:=ko ht
  have hs:=bu hn
  have hin:aX (y:Int) N=true:=bf hx
  cases gj:(t y).used with
  |true=>exact NO ih hT hu hx gj
  |false=>
   cases hl:iM 7 y with
   |zero=>
    have hV:aW t (y:Int)=[]:=by unfold aW;rw [aaa,hl];exact qN gj
    rw [hV]
    refine ai.mF (h1:=[]) (aI (oC k ih [(14,false),(40,true)]) 60 func148 (T1 N t y k ih) ?_ rfl) .i64 false true
    rw [aaa,hin,Me hx,show (t y).1=false from gj,(pK hn (hN▸hx) hl).1,Me (show (0:Int)<=y by omega),Me (show (y:Int)<64 by omega)]
    rfl
   |succ j=>
    obtain ⟨h1,h2,h3,h4,h5,h6,h7⟩:=je hn (hN▸hx) hl
    have hV:aW t (y:Int)=aW t ((y-2^j:Nat):Int)++aW t ((y+2^j:Nat):Int):=by
     unfold aW;rw [aaa,aaa,aaa,hl,h5,h6];exact qP gj
    have l1:=p5 hu hn hN j (y-2^j) (by omega) h5
    have l2:=p5 hu hn hN j (y+2^j) (by omega) h6
    have hj:2^j<=2^7:=Nat.pow_le_pow_right (by decide) (by have:=tL 7 y;omega)
    have e1:aW t ((y-2^j:Nat):Int)=nF t j (y-2^j):=by unfold aW;rw [aaa,h5]
    have e2:aW t ((y+2^j:Nat):Int)=nF t j (y+2^j):=by unfold aW;rw [aaa,h6]
    have hok:bF N (λi=>af (aq t i))=true:=bq hT
    have e:=T4 N t y k ih
    rw [h1,h2] at e
    rw [hV,aar]
    refine ai.yN (v:=.sl 0 0 0 1 ((aW t ((y-2^j:Nat):Int)).length+(aW t ((y+2^j:Nat):Int)).length) ((aW t ((y-2^j:Nat):Int)).length+(aW t ((y+2^j:Nat):Int)).length) false true) (h1:=[.b [.ints .i64 ((aW t ((y-2^j:Nat):Int)).length+(aW t ((y+2^j:Nat):Int)).length) (aW t ((y-2^j:Nat):Int)++aW t ((y+2^j:Nat):Int))],.b [.ints .i64 (aW t ((y+2^j:Nat):Int)).length (aW t ((y+2^j:Nat):Int))]]) [0] ?_ rfl
    refine ai.bg (oC k ih [(14,false),(40,false)]) func148 (n:=60) (e.trans ?_)
    have r1:eM N (ag λi=>af (aq t i)) ((y-2^j:Nat):Int) k=true:=mR (t:=t) hu ht (by omega) (by omega)
    have r2:eM N (ag λi=>af (aq t i)) ((y+2^j:Nat):Int) k=true:=mR (t:=t) hu ht (by omega) (by omega)
    have q:∀x:Int,aW (ag λi=>af (aq t i)) x=aW t x:=λ_=>rfl
    rw [aaa,hin,Me hx,show (t y).1=false from gj,Me (show (0:Int)<=y by omega),Me (show (y:Int)<64 by omega),hok,Me hT.le,r1,r2,aam (show ¬((y-2^j:Nat):Int)<0 by omega),q,q]
    rw [Me (aaf _),Me (aaf _),Me (Eq.refl (aW t ((y-2^j:Nat):Int)).length),Me (Eq.refl (aW t ((y+2^j:Nat):Int)).length),Me (show (aW t ((y-2^j:Nat):Int)).length+(aW t ((y+2^j:Nat):Int)).length<=2^38 by rw [e1,e2];omega)]
    rfl
end
end Go.Proofs.YthlnlcijnoadcaaGreatDoor.Tr
end
section
namespace Go.Proofs.YthlnlcijnoadcaaGreatDoor.Tr
open Go Go.Sy
def jo (b:Bool) (l:List (Nat×Bool)):bO:=mk (P:=prog) [tM b,Zz 8 (BE 8)] [] (uT l)
theorem cK (b:Bool) (l:List (Nat×Bool)):ak prog (jo b l):=az _ aL.nil _ _
theorem aeO (N:Nat) (t:Nat->aj) (x:Int):(aG prog (jo true [(6,true)]) 60 f105 [.aJ false 99 N (aq t),.int .i64 x] []).map (λx=>(x.1,x.2.2))=some (.nl (.slice none 0 0),aa true (decide (x<0))):=by kernel_rfl
theorem aeP (N:Nat) (t:Nat->aj) (x:Int):(aG prog (jo true [(6,false),(11,true)]) 60 f105 [.aJ false 99 N (aq t),.int .i64 x] []).map (λx=>(x.1,x.2.2))=some (.nl (.slice none 0 0),aa (aa true !decide (x<0)) (decide (x>=((N:Nat):Int)))):=by kernel_rfl
theorem aeQ (N:Nat) (t:Nat->aj) (x:Int):(aG prog (jo false [(6,false),(11,false)]) 60 f105 [.aJ false 99 N (aq t),.int .i64 x] []).map (λx=>(x.1,x.2.2))=some (.nl (.slice none 0 0),aa (aa (aa true !decide (x<0)) !decide (x>=((N:Nat):Int))) (aa true ((bF N λi=>af (aq t i))&&decide (N<=71)&&aM N (ag λi=>af (aq t i))==false))):=by kernel_rfl
theorem aeR (N:Nat) (t:Nat->aj) (x:Int):(aG prog (jo true [(6,false),(11,false)]) 60 f105 [.aJ false 99 N (aq t),.int .i64 x] [])=some (.sl 0 0 0 1 (aW t x).length (aW t x).length false true,[.b [.ints .i64 (aW t x).length (aW t x)]],aa (aa (aa (aa true !decide (x<0)) !decide (x>=((N:Nat):Int))) (aa true ((bF N λi=>af (aq t i))&&decide (N<=71)&&aM N (ag λi=>af (aq t i))==true))) (aa true ((bF N λi=>af (aq t i))&&decide (N<=71)&&eM N (ag λi=>af (aq t i)) x 8))):=by kernel_rfl
def E9 (l:List (Nat×Bool)):bO:=mk (P:=prog) [] [] (uT l)
theorem oD (l:List (Nat×Bool)):ak prog (E9 l):=az _ aL.nil _ _
def fC (k:Nat):Prop:=∀(N:Nat) (t:Nat->aj) (x:Int),cF N t->eM N t x k=true->
 ai prog 74 [.aJ false 99 N (aq t),.int .i64 x] [] (.sl 0 0 0 1 (aW t x).length (aW t x).length false true) [.b [.ints .i64 (aW t x).length (aW t x)]]
def Ox (k:Nat) (ih:fC k):Entry prog:=.val 74 _ func74 (by decide) rfl true 1 (NJ k) λvs v new e=>by
 unfold NJ at e
 split at e
 ·simp only [No,aae,aac,aab] at e
  obtain ⟨rfl,rfl,⟨h1,h2⟩,h3⟩:=e
  exact ai.conv (ih _ _ _ (cF.of h1 h2) h3) ⟨VE.tree h1,VE.refl _,trivial⟩ trivial (VE.refl _) ⟨PE.refl _,trivial⟩
 ·cases e
def JE (k:Nat) (ih:fC k) (l:List (Nat×Bool)):bO:=mk (P:=prog) [jh,Ox k ih] [] (uT l)
theorem oE (k:Nat) (ih:fC k) (l:List (Nat×Bool)):ak prog (JE k ih l):=az _ aL.nil _ _
def qvB:Code:=aP f74
def T6:Code:=Yy (au 2 qvB)
def qv0 (N:Nat) (t:Nat->aj) (x:Int):St:=⟨slotsOf 53 [(0,.aJ false 99 N (aq t)),(1,.int .i64 x),(13,.bool true)],[],true⟩
def EP (N:Nat) (t:Nat->aj) (x:Int) (xs:List Int) (n:Nat) (ex:Bool) (j:Int):St:=⟨slotsOf 53 [(0,.aJ false 99 N (aq t)),(1,.int .i64 x),(5,.sl 0 0 0 1 n n ex true),(6,.int .i64 j)],[.b [.ints .i64 n xs]],true⟩
theorem NP (N:Nat) (t:Nat->aj) (x:Int) (k:Nat) (ih:fC k):aA (ah [0,1,13] 0 ((aE prog (JE k ih [(13,true)]) 60 0 2 (atoms qvB) ⟨aD f74.ntmps [.aJ false 99 N (aq t),.int .i64 x],[],true⟩).map λs=>(Exit.normal,s)))=some (.normal,(qv0 N t x).t,[]):=by kernel_rfl
theorem JF (N:Nat) (t:Nat->aj) (x:Int) (k:Nat) (ih:fC k):aZ (ah [0,1,13] 0 ((aE prog (JE k ih [(13,true)]) 60 0 2 (atoms qvB) ⟨aD f74.ntmps [.aJ false 99 N (aq t),.int .i64 x],[],true⟩).map λs=>(Exit.normal,s)))=(aa (aa (aa true (aX x N)) (true&&(decide (x.toNat<N)&&true))) (t x.toNat).1):=by kernel_rfl
theorem T7 (N:Nat) (t:Nat->aj) (x:Int) (k:Nat) (ih:fC k):aA (ah [0,1,5,6] 1 ((aE prog (JE k ih []) 60 0 2 (atoms T6) (qv0 N t x)).map λs=>(Exit.normal,s)))=some (.normal,(EP N t x [x] 1 true 0).t,(EP N t x [x] 1 true 0).h):=by kernel_rfl
theorem NQ (N:Nat) (t:Nat->aj) (x:Int) (k:Nat) (ih:fC k):aZ (ah [0,1,5,6] 1 ((aE prog (JE k ih []) 60 0 2 (atoms T6) (qv0 N t x)).map λs=>(Exit.normal,s)))=(true):=by kernel_rfl
theorem T8 (N:Nat) (t:Nat->aj) (x:Int) (xs:List Int) (n:Nat) (j:Int) (k:Nat) (ih:fC k):aA (ah [0,1,5,6] 1 (exec prog (JE k ih [(23,true)]) 60 0 (inner (inner (au 2 T6))) (EP N t x xs n false j)))=some (.normal,(EP N t x (xs++[i64.wrap (2*(t x.toNat).un.getD j.toNat 0)]) (n+1) false (i64.wrap (j+1))).t,(EP N t x (xs++[i64.wrap (2*(t x.toNat).un.getD j.toNat 0)]) (n+1) false (i64.wrap (j+1))).h):=by kernel_rfl
theorem NR (N:Nat) (t:Nat->aj) (x:Int) (xs:List Int) (n:Nat) (j:Int) (k:Nat) (ih:fC k):aZ (ah [0,1,5,6] 1 (exec prog (JE k ih [(23,true)]) 60 0 (inner (inner (au 2 T6))) (EP N t x xs n false j)))=(aa (aa (aa (aa (aa (aa (aa (aa true (aX x N)) (true&&(decide (x.toNat<N)&&true))) (decide (j<(((t x.toNat).un.length:Nat):Int)))) (aX x N)) (true&&(decide (x.toNat<N)&&true))) (aX j (t x.toNat).un.length)) (decide (j.toNat<(t x.toNat).un.length))) (aa (aa (aa (aa (decide (((List.replicate 1 0).set 0 (i64.wrap (2*(t x.toNat).un.getD j.toNat 0))).length=1)&&true) (decide (xs.length=n)&&(decide (n<=n)&&true))) (decide (xs.length=n))) true) (decide (n+1<=2^38)))):=by kernel_rfl
theorem T9 (N:Nat) (t:Nat->aj) (x:Int) (xs:List Int) (n:Nat) (j:Int) (k:Nat) (ih:fC k):aA (ah [5] 1 (exec prog (JE k ih [(23,false)]) 60 0 (inner (inner (au 2 T6))) (EP N t x xs n false j)))=some (.exit 0,slotsOf 53 [(5,.sl 0 0 0 1 n n false true)],[.b [.ints .i64 n xs]]):=by kernel_rfl
theorem NS (N:Nat) (t:Nat->aj) (x:Int) (xs:List Int) (n:Nat) (j:Int) (k:Nat) (ih:fC k):aZ (ah [5] 1 (exec prog (JE k ih [(23,false)]) 60 0 (inner (inner (au 2 T6))) (EP N t x xs n false j)))=(aa (aa (aa true (aX x N)) (true&&(decide (x.toNat<N)&&true))) !decide (j<(((t x.toNat).un.length:Nat):Int))):=by kernel_rfl
theorem Ua (N:Nat) (t:Nat->aj) (x:Int) (k:Nat) (ih:fC k):(aG prog (JE k ih [(13,false),(45,true)]) 60 f74 [.aJ false 99 N (aq t),.int .i64 x] []).map (λx=>(x.1,x.2.2))=some (.nl (.slice none 0 0),aa (aa (aa (aa (aa true (aX x N)) (true&&(decide (x.toNat<N)&&true))) !(t x.toNat).1) (aa true (decide (0<=x)&&decide (x<64)))) (decide (aN x<0))):=by kernel_rfl
theorem Ub (N:Nat) (t:Nat->aj) (x:Int) (k:Nat) (ih:fC k):(aG prog (JE k ih [(13,false),(45,false)]) 60 f74 [.aJ false 99 N (aq t),.int .i64 x] [])=some (.sl 0 0 0 1 ((aW t (aN x)).length+(aW t (aH x)).length) ((aW t (aN x)).length+(aW t (aH x)).length) false true,[.b [.ints .i64 ((aW t (aN x)).length+(aW t (aH x)).length) (aW t (aN x)++aW t (aH x))],.b [.ints .i64 (aW t (aH x)).length (aW t (aH x))]],aa (aa (aa (aa (aa (aa (aa (aa true (aX x N)) (true&&(decide (x.toNat<N)&&true))) !(t x.toNat).1) (aa true (decide (0<=x)&&decide (x<64)))) !decide (aN x<0)) (aa true ((bF N λi=>af (aq t i))&&decide (N<=71)&&eM N (ag λi=>af (aq t i)) (aN x) k))) (aa true ((bF N λi=>af (aq t i))&&decide (N<=71)&&eM N (ag λi=>af (aq t i)) (aH x) k))) (aa (aa (aa (decide ((aW (ag λi=>af (aq t i)) (aH x)).length=(aW (ag λi=>af (aq t i)) (aH x)).length)&&(decide ((aW (ag λi=>af (aq t i)) (aH x)).length<=(aW (ag λi=>af (aq t i)) (aH x)).length)&&true)) (decide ((aW (ag λi=>af (aq t i)) (aN x)).length=(aW (ag λi=>af (aq t i)) (aN x)).length)&&(decide ((aW (ag λi=>af (aq t i)) (aN x)).length<=(aW (ag λi=>af (aq t i)) (aN x)).length)&&true))) (decide ((aW (ag λi=>af (aq t i)) (aN x)).length=(aW (ag λi=>af (aq t i)) (aN x)).length))) (decide ((aW (ag λi=>af (aq t i)) (aN x)).length+(aW (ag λi=>af (aq t i)) (aH x)).length<=2^38)))):=by kernel_rfl
section
variable {N n k:Nat} {t:Nat->aj} {x:Nat}
theorem NT (ih:fC k) (hT:cF N t) (hu:TW N t=true) (hx:x<N) (h:(t x).used=true):
  ai prog 74 [.aJ false 99 N (aq t),.int .i64 x] [] (.sl 0 0 0 1 (aW t x).length (aW t x).length false true) [.b [.ints .i64 (aW t x).length (aW t x)]]:=by
 obtain ⟨hl,hr⟩:=y9 hu hx
 have hR:aW t x=(x:Int)::(t x).un.map (2* ·):=nq h
 have hlen:(aW t x).length=1+(t x).un.length:=by rw [hR,adY,List.length_map];omega
 have hin:aX (x:Int) N=true:=bf hx
 rw [hlen,hR]
 refine ai.mk (vs:=[.sl 0 0 0 1 (1+(t x).un.length) (1+(t x).un.length) false true]) func74 rfl (x:=.ret) (s:=⟨slotsOf 53 [(5,.sl 0 0 0 1 (1+(t x).un.length) (1+(t x).un.length) false true),(38,.sl 0 0 0 1 (1+(t x).un.length) (1+(t x).un.length) false true),(4,.sl 0 0 0 1 (1+(t x).un.length) (1+(t x).un.length) false true)],[.b [.ints .i64 (1+(t x).un.length) ((x:Int)::(t x).un.map (2* ·))]],true⟩) ?_ (.inl rfl) (by kernel_rfl)
 refine aV.bk (oE k ih [(13,true)]) 60 2 _ 0 (aaf _) (s1:=qv0 N t x) _ (NP N t x k ih) (JF N t x k ih) (by rw [aaa,hin,Me hx,show (t x).1=true from h];rfl) (by decide) rfl ?_
 refine aV.leave 2 (by decide) (by simp) ?_
 rw [show au 2 (aP f74)= .cond (.tmp 13) T6 .skip by kernel_rfl]
 refine Tr.cond_true rfl (Tr.dr ?_)
 have em:=T7 N t x k ih
 refine aV.bk (oE k ih []) 60 2 _ 1 (aap _) (s1:=EP N t (x:Int) [(x:Int)] 1 true 0) _ em (NQ N t x k ih) rfl (by decide) rfl ?_
 refine aV.pre (s1:=EP N t (x:Int) ((x:Int)::((t x).un.take 0).map (2* ·)) (1+0) false ((0:Nat):Int)) ?_ ?_ (by intro q;cases q)
 ·refine aV.item 2 (by decide) (s1:=⟨slotsOf 53 [(5,.sl 0 0 0 1 (1+(t x).un.length) (1+(t x).un.length) false true)],[.b [.ints .i64 (1+(t x).un.length) ((x:Int)::(t x).un.map (2* ·))]],true⟩) (Tr.loop 0 (by kernel_rfl) (λj=>EP N t (x:Int) ((x:Int)::((t x).un.take j).map (2* ·)) (1+j) false ((j:Nat):Int)) (t x).un.length (λj hj=>?_) ?_) ?_
  ·have e:=T8 N t (x:Int) ((x:Int)::((t x).un.take j).map (2* ·)) (1+j) j k ih
   have hg:=hr ((t x).un.getD j 0) (by rw [bY hj];exact List.getElem_mem hj)
   rw [aaa,aaa,cg (by omega) (by omega),cq (by omega),List.cons_append,getD_map hj,show 1+j+1=1+(j+1) by omega] at e
   refine Tr.aR (oE k ih [(23,true)]) 60 _ 1 (aap _) (s':=EP N t (x:Int) ((x:Int)::((t x).un.take (j+1)).map (2* ·)) (1+(j+1)) false ((j+1:Nat):Int)) _ e (NR _ _ _ _ _ _ k ih) ?_
   rw [aaa,aaa,hin,Me hx,fo hj,bf hj,Me hj,Me (aaf (1+j)),Me (show ((x:Int)::((t x).un.take j).map (2* ·)).length=1+j by simp;omega),Me (show 1+j+1<=2^38 by omega)]
   rfl
  ·have e:=T9 N t (x:Int) ((x:Int)::((t x).un.take (t x).un.length).map (2* ·)) (1+(t x).un.length) (t x).un.length k ih
   rw [adA] at e
   rw [adA]
   exact Tr.aR (oE k ih [(23,false)]) 60 _ 1 (aap _) _ e (NS N t (x:Int) ((x:Int)::(t x).un.map (2* ·)) (1+(t x).un.length) (t x).un.length k ih) (by rw [aaa,hin,Me hx,fA (aaf _)];rfl)
  ·exact aV.rest (oE k ih []) 60 (by kernel_rfl) rfl
 ·exact bE.slot (t:=(EP N t (x:Int) [(x:Int)] 1 true 0).t) 5 (v:=.sl 0 0 0 1 1 1 true true) rfl (VE.Ik 0 0 0 1 1 1 true)
theorem zm:∀k,fC k:=by
 intro k
 induction k with
 |zero=>
  intro N t x hT h
  simp [eM] at h
 |succ k ih=>
  intro N t x hT h
  unfold eM at h
  simp only [aac,aab] at h
  obtain ⟨⟨⟨⟨hu,ht⟩,h0⟩,hx⟩,hk⟩:=h
  obtain ⟨y,rfl⟩:=aaB h0
  rw [aaa] at hk
  have hx:y<N:=by omega
  obtain ⟨n,hn,hN⟩:=ko ht
  have hs:=bu hn
  have hin:aX (y:Int) N=true:=bf hx
  cases gj:(t y).used with
  |true=>exact NT ih hT hu hx gj
  |false=>
   cases hl:iM 7 y with
   |zero=>
    have hV:aW t (y:Int)=[]:=by unfold aW;rw [aaa,hl];exact qN gj
    rw [hV]
    refine ai.mF (h1:=[]) (aI (oE k ih [(13,false),(45,true)]) 60 func74 (Ua N t y k ih) ?_ rfl) .i64 false true
    rw [aaa,hin,Me hx,show (t y).1=false from gj,(pK hn (hN▸hx) hl).1,Me (show (0:Int)<=y by omega),Me (show (y:Int)<64 by omega)]
    rfl
   |succ j=>
    obtain ⟨h1,h2,h3,h4,h5,h6,h7⟩:=je hn (hN▸hx) hl
    have hV:aW t (y:Int)=aW t ((y-2^j:Nat):Int)++aW t ((y+2^j:Nat):Int):=by
     unfold aW;rw [aaa,aaa,aaa,hl,h5,h6];exact qP gj
    have l1:=p5 hu hn hN j (y-2^j) (by omega) h5
    have l2:=p5 hu hn hN j (y+2^j) (by omega) h6
    have hj:2^j<=2^7:=Nat.pow_le_pow_right (by decide) (by have:=tL 7 y;omega)
    have e1:aW t ((y-2^j:Nat):Int)=nF t j (y-2^j):=by unfold aW;rw [aaa,h5]
    have e2:aW t ((y+2^j:Nat):Int)=nF t j (y+2^j):=by unfold aW;rw [aaa,h6]
    have hok:bF N (λi=>af (aq t i))=true:=bq hT
    have e:=Ub N t y k ih
    rw [h1,h2] at e
    rw [hV,aar]
    refine ai.yN (v:=.sl 0 0 0 1 ((aW t ((y-2^j:Nat):Int)).length+(aW t ((y+2^j:Nat):Int)).length) ((aW t ((y-2^j:Nat):Int)).length+(aW t ((y+2^j:Nat):Int)).length) false true) (h1:=[.b [.ints .i64 ((aW t ((y-2^j:Nat):Int)).length+(aW t ((y+2^j:Nat):Int)).length) (aW t ((y-2^j:Nat):Int)++aW t ((y+2^j:Nat):Int))],.b [.ints .i64 (aW t ((y+2^j:Nat):Int)).length (aW t ((y+2^j:Nat):Int))]]) [0] ?_ rfl
    refine ai.bg (oE k ih [(13,false),(45,false)]) func74 (n:=60) (e.trans ?_)
    have r1:eM N (ag λi=>af (aq t i)) ((y-2^j:Nat):Int) k=true:=mR (t:=t) hu ht (by omega) (by omega)
    have r2:eM N (ag λi=>af (aq t i)) ((y+2^j:Nat):Int) k=true:=mR (t:=t) hu ht (by omega) (by omega)
    have q:∀x:Int,aW (ag λi=>af (aq t i)) x=aW t x:=λ_=>rfl
    rw [aaa,hin,Me hx,show (t y).1=false from gj,Me (show (0:Int)<=y by omega),Me (show (y:Int)<64 by omega),hok,Me hT.le,r1,r2,aam (show ¬((y-2^j:Nat):Int)<0 by omega),q,q]
    rw [Me (aaf _),Me (aaf _),Me (Eq.refl (aW t ((y-2^j:Nat):Int)).length),Me (Eq.refl (aW t ((y+2^j:Nat):Int)).length),Me (show (aW t ((y-2^j:Nat):Int)).length+(aW t ((y+2^j:Nat):Int)).length<=2^38 by rw [e1,e2];omega)]
    rfl
def rM (N:Nat) (t:Nat->aj) (x:Int):List Int:=bif decide (0<=x)&&decide (x<N)&&aM N t then aW t x else []
theorem fH (hT:cF N t) (h:aM N t=true):∃n∈sizes,aO N=(n:Int)/\N=2*n-1/\∀x,x<N->eW t n x=true:=by
 unfold aM at h
 simp only [aac,aaY] at h
 obtain ⟨n,hn,h1,h2⟩:=iG hT.le h.1
 refine ⟨n,hn,h1,h2,λx hx=>?_⟩
 have:=aah.1 h.2.1 x (aan.2 hx)
 rwa [h1,aaa] at this
theorem Gp {x:Int} {un:List Int} {j:Nat} (h:A7 t x n un j=true):E5 un j<un.getD j 0/\er x<=un.getD j 0/\un.getD j 0<=g8 x:=by
 unfold A7 at h
 simp only [aac,aaY,ac7] at h
 omega
theorem tJ {x:Nat} (hn:n∈sizes) (hx:x<2*n-1) (h:dZ t x n=true):(∀u∈(t x).un,0<=u/\u<n)/\(t x).un.length<=n:=by
 unfold dZ at h
 simp only [aac,aaa] at h
 obtain ⟨_,h⟩:=h
 have q:aQ (x:Int) n=true:=aaT.2 ⟨n,hn,by simp;omega⟩
 obtain ⟨b1,b2⟩:=ux q
 have r:∀j,j<(t x).un.length->E5 (t x).un j<(t x).un.getD j 0/\0<=(t x).un.getD j 0/\(t x).un.getD j 0<n:=λj hj=>by
  have:=Gp (aah.1 h j (aan.2 hj))
  omega
 refine ⟨λu hu=>?_,?_⟩
 ·obtain ⟨j,hj,rfl⟩:=List.getElem_of_mem hu
  have:=r j hj
  rw [bY hj] at this
  exact this.2
 ·have g:∀j,j<(t x).un.length->(j:Int)<=(t x).un.getD j 0:=by
   intro j
   induction j with
   |zero=>intro hj;exact (r 0 hj).2.1
   |succ j ih=>
    intro hj
    have a:=ih (by omega)
    have b:(t x).un.getD j 0<(t x).un.getD (j+1) 0:=(r (j+1) hj).1
    omega
  cases hl:(t x).un.length with
  |zero=>omega
  |succ k=>
   have a:=g k (by omega)
   have b:=r k (by omega)
   omega
theorem tK (hT:cF N t) (h:aM N t=true):TW N t=true/\ri N=true:=by
 obtain ⟨n,hn,h1,hN,hg⟩:=fH hT h
 have hs:=bu hn
 refine ⟨aah.2 λx hx=>?_,aaT.2 ⟨n,hn,Me hN⟩⟩
 have hx:=aan.1 hx
 have g:=hg x hx
 have key:(∀u∈(t x).un,0<=u/\u<n)/\(t x).un.length<=n:=by
  unfold eW at g
  cases hu:(t x).used with
  |false=>
   rw [hu] at g
   have:(t x).un=[]:=by
    unfold om kq at g
    simp only [aeF,aeL,aac,aab] at g
    exact g.2
   rw [this];exact ⟨λ_ q=>by simp at q,aap _⟩
  |true=>
   rw [hu] at g
   cases hp:(x%2==0) with
   |true=>
    rw [hp] at g
    have:(t x).un=[]:=by
     unfold DM at g
     simp only [Bool.not_true,cond_false,aeL,aac,aaS] at g
     have:=g.1.2
     exact aaw.1 (by omega)
    rw [this];exact ⟨λ_ q=>by simp at q,aap _⟩
   |false=>
    rw [hp] at g
    exact tJ hn (hN▸hx) g
 simp only [aac,aab,aah]
 refine ⟨by omega,λu hu=>?_⟩
 have:=key.1 u hu
 omega
theorem zn (hT:cF N t) (h:aM N t=true) {x:Int} (h0:0<=x) (h1:x<N):eM N t x 8=true:=by
 obtain ⟨hu,ht⟩:=tK hT h
 obtain ⟨y,rfl⟩:=aaB h0
 exact mR hu ht (by omega) (by have:=tL 7 y;omega)
theorem vo {x:Int} (hT:cF N t):ai prog 105 [.aJ false 99 N (aq t),.int .i64 x] [] (.ro true .i64 (rM N t x)) []:=by
 have hok:bF N (λi=>af (aq t i))=true:=bq hT
 have nil:ai prog 105 [.aJ false 99 N (aq t),.int .i64 x] [] (.nl (.slice none 0 0)) []->ai prog 105 [.aJ false 99 N (aq t),.int .i64 x] [] (.ro true .i64 []) []:=λg=>ai.conv g ⟨VE.refl _,VE.refl _,trivial⟩ trivial (VE.nN true .i64) trivial
 unfold rM
 by_cases h0:x<0
 ·rw [aam (show ¬0<=x by omega)]
  exact nil (aI (cK _ _) 60 func105 (aeO N t x) (by rw [Me h0];rfl) rfl)
 ·by_cases h1:x>=N
  ·rw [aam (show ¬x<(N:Int) by omega),acC,adw]
   exact nil (aI (cK _ _) 60 func105 (aeP N t x) (by rw [aam h0,Me h1];rfl) rfl)
  ·rw [Me (show 0<=x by omega),Me (show x<(N:Int) by omega)]
   cases hc:aM N t with
   |false=>exact nil (aI (cK _ _) 60 func105 (aeQ N t x) (by rw [aam h0,aam h1,hok,Me hT.le,show aM N (ag λi=>af (aq t i))=false from hc];rfl) rfl)
   |true=>
    have hr:eM N (ag λi=>af (aq t i)) x 8=true:=zn (t:=t) hT hc (by omega) (by omega)
    refine ai.jG (ex:=false) (wh:=true) (N:=(aW t x).length) (ai.bg (cK true [(6,false),(11,false)]) func105 (n:=60) ((aeR N t x).trans ?_)) rfl
    rw [aam h0,aam h1,hok,Me hT.le,show aM N (ag λi=>af (aq t i))=true from hc,hr]
    rfl
def zb:Entry prog:=.val 105 _ func105 (by decide) rfl true 0 (λvs=>match vs with
 | [.aJ false 99 N g,.int .i64 x]=>some (.ro true .i64 (rM N (ag g) x),[],bF N g&&decide (N<=71))
 |_=>none) λvs v new e=>by
 split at e
 ·simp only [No,aae,aac,aab] at e
  obtain ⟨rfl,rfl,h1,h2⟩:=e
  exact ai.conv (vo (cF.of h1 h2)) ⟨VE.tree h1,VE.refl _,trivial⟩ trivial (VE.refl _) trivial
 ·cases e
end
end Go.Proofs.YthlnlcijnoadcaaGreatDoor.Tr
end
