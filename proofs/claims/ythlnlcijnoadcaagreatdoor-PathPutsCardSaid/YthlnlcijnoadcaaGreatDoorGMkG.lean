/- This file holds the texts MkF, MkG, a section each. No conditions beyond those in the theorems. -/
import Derived.Test.YthlnlcijnoadcaaGreatDoorGMkE
noncomputable section
open Go.Proofs.Tryz
open Go.IntKind (i64 u8 u64 u32)
set_option linter.all false
set_option maxRecDepth 100000
section
namespace Go.Proofs.YthlnlcijnoadcaaGreatDoor.Mk
open Go Go.Sy Tr Wi S2
open Q2 (bD ku By iN)
theorem KP:((List.range 256).all λx=>fq (x:Int)==(x:Int)&&u8.wrap (x:Int)==(x:Int))=true:=by decide+kernel
theorem qv {x:Int} (h0:0<=x) (h1:x<=255):fq x=x/\u8.wrap x=x:=by
 obtain ⟨y,rfl⟩:=aaB h0
 have:=aah.1 KP y (aan.2 (by omega))
 simpa only [aac,aaS] using this
theorem r5 {n:aj} {un:List Int} (h:mH n un=true):oh n un=dx n un:=by
 unfold mH Wi.aQ at h
 simp only [aac,aab] at h
 obtain ⟨⟨⟨⟨⟨⟨⟨⟨hk,hs⟩,hp⟩,h0⟩,h1⟩,hu⟩,hr⟩,hl⟩,hz⟩:=h
 unfold oh dx bQ dS nO
 have e1:=qv h0 h1
 have e2:=qv (x:=(un.length:Int)) (by omega) (by omega)
 have e3:un.map fq=un.map u8.wrap:=List.map_congr_left λu lG=>by
  have:=aah.1 hu u lG
  simp only [aac,aab] at this
  have:=qv this.1 (show u<=255 by omega)
  rw [this.1,this.2]
 rw [e1.1,e2.1,e3,JX,e1.2,e2.2]
 simp
theorem gE {a b:List Int} (ha:By a) (hb:By b):By (a++b):=λx hx=>(List.mem_append.1 hx).elim (ha x) (hb x)
theorem AV {n:aj} {un:List Int} (h:mH n un=true) (ok:n.OK):By (dx n un):=by
 unfold mH Wi.aQ at h
 simp only [aac,aab] at h
 obtain ⟨⟨⟨⟨⟨⟨⟨⟨hk,hs⟩,hp⟩,h0⟩,h1⟩,hu⟩,hr⟩,hl⟩,hz⟩:=h
 unfold dx dS JX
 have e1:=qv h0 h1
 have e2:=qv (x:=(un.length:Int)) (by omega) (by omega)
 refine gE (gE (gE (gE (gE ?_ ok.key.2) ok.sign.2) ok.par.2) ?_) ?_
 ·intro x hx
  rw [e1.2] at hx
  simp only [ad2,List.not_mem_nil,or_false] at hx
  rcases hx with rfl|rfl
  ·cases n.used<;>decide
  ·omega
 ·intro x hx
  rw [e2.2] at hx
  simp only [ad2,List.not_mem_nil,or_false] at hx
  subst hx;omega
 ·intro x hx
  obtain ⟨u,lG,rfl⟩:=List.mem_map.1 hx
  have:=aah.1 hu u lG
  simp only [aac,aab] at this
  rw [(qv this.1 (show u<=255 by omega)).2];omega
theorem KQ (un wo:List Int):cM un wo=b5 un wo:=by
 unfold cM b5
 congr 1;funext u;rw [xo]
abbrev tQ:aj:=⟨false,0,cH,cH,cH,[]⟩
theorem DR:tQ.OK:=⟨by decide,by decide,by decide,by decide,by decide⟩
theorem tR:mH tQ []=true:=by decide+kernel
theorem tS (l:List Int):By (dB l):=vM l
section
variable {N n:Nat} {t:Nat->aj} {wo:List Int}
theorem KR (hn:n∈sizes) (hN:N=2*n-1) (hB:((List.range N).all λi=>mH (t i) (t i).un&&mH (t i) (b5 (t i).un wo))=true) (ok:∀i,i<N->(t i).OK):
  ∀k x,x<N->iM 7 x=k->By (jf t wo k x)/\(jf t wo k x).length<=300/\mG t wo k x=bD (jf t wo k x):=by
 have hs:=bu hn
 have hlen:∀(m:aj) (un:List Int),mH m un=true->(dx m un).length<=131:=λm un h=>r5 h▸pJ h
 intro k
 induction k with
 |zero=>
  intro x hx hk
  have g:=aah.1 hB x (aan.2 hx)
  rw [aac] at g
  have h1:By [1,((x/2:Nat):Int)]:=by
   intro z hz
   simp only [ad2,List.not_mem_nil,or_false] at hz
   rcases hz with rfl|rfl<;>omega
  have key:By (jf t wo 0 x)/\(jf t wo 0 x).length<=300/\[[1,((x/2:Nat):Int)],vI t wo x].flatten=jf t wo 0 x:=by
   unfold jf vI
   rw [xo]
   cases hasB wo ((x/2:Nat):Int) with
   |true=>
    have q:=hlen _ _ tR
    refine ⟨gE h1 (AV tR DR),?_,?_⟩
    ·show ([1,((x/2:Nat):Int)]++dx tQ []).length<=300
     simp only [aar,adY,List.length_nil];omega
    ·show [1,((x/2:Nat):Int)]++(oh tQ []++[])=[1,((x/2:Nat):Int)]++dx tQ []
     rw [r5 tR,aaz]
   |false=>
    have q:=hlen _ _ g.1
    refine ⟨gE h1 (AV g.1 (ok x hx)),?_,?_⟩
    ·show ([1,((x/2:Nat):Int)]++dx (t x) (t x).un).length<=300
     simp only [aar,adY,List.length_nil];omega
    ·show [1,((x/2:Nat):Int)]++(oh (t x) (t x).un++[])=[1,((x/2:Nat):Int)]++dx (t x) (t x).un
     rw [r5 g.1,aaz]
  refine ⟨key.1,key.2.1,?_⟩
  rw [mG,key.2.2]
  exact iN key.1 (by omega)
 |succ k ih=>
  intro x hx hk
  obtain ⟨h1,h2,h3,h4,h5,h6,h7⟩:=je hn (hN▸hx) hk
  have g:=aah.1 hB x (aan.2 hx)
  rw [aac] at g
  obtain ⟨a1,_,a3⟩:=ih (x-2^k) (by omega) h5
  obtain ⟨b1,_,b3⟩:=ih (x+2^k) (by omega) h6
  have q:=hlen _ _ g.2
  have l1:By (bD (jf t wo k (x-2^k))):=by rw [<-a3];cases k<;>exact tS _
  have l2:By (bD (jf t wo k (x+2^k))):=by rw [<-b3];cases k<;>exact tS _
  have key:By (jf t wo (k+1) x)/\(jf t wo (k+1) x).length<=300/\[[2],oh (t x) (b5 (t x).un wo),mG t wo k (x-2^k),mG t wo k (x+2^k)].flatten=jf t wo (k+1) x:=by
   rw [jf,KQ,a3,b3,r5 g.2]
   refine ⟨gE (gE (gE (by intro z hz;simp at hz;omega) (AV g.2 (ok x hx))) l1) l2,?_,?_⟩
   ·simp only [aar,adY,List.length_nil,jg];omega
   ·simp only [List.flatten_cons,List.flatten_nil,aaz,aaE]
  refine ⟨key.1,key.2.1,?_⟩
  rw [mG,key.2.2]
  exact iN key.1 (by omega)
theorem Gt (hT:cF N t) (h:aM N t=true) (hw:wo.length<=274877906944) (ok:∀i,i<N->(t i).OK) {x:Int} (h0:0<=x) (h1:x<N):bD (eC t wo x)=cr t wo x:=by
 obtain ⟨n,hn,_,hN,hg⟩:=fH hT h
 have q:=qu hT h hw h0 h1
 unfold jc at q
 simp only [aac] at q
 exact (KR hn hN q.1.1.1.1.1 ok (iM 7 x.toNat) x.toNat (by omega) rfl).2.2.symm
theorem y8 (hT:cF N t) (h:aM N t=true) (hw:wo.length<=274877906944) {x:Int} (h0:0<=x) (h1:x<N):nB N t wo x 8=true:=by
 obtain ⟨hu,ht⟩:=tK hT h
 obtain ⟨y,rfl⟩:=aaB h0
 refine xl (aah.2 λi hi=>Me ?_) ht hw (by omega) (by have:=tL 7 y;omega)
 have:=(y9 hu (aan.1 hi)).1
 omega
end
def e9 (N:Nat) (t:Nat->aj):Bool:=(List.range N).all λi=>(t i).key.all (λz=>decide (0<=z)&&decide (z<256))&&(t i).sign.all (λz=>decide (0<=z)&&decide (z<256))&&(t i).par.all (λz=>decide (0<=z)&&decide (z<256))&&decide ((Lit.int .i64 (t i).name).wf=true)&&(t i).un.all λz=>(Lit.int .i64 z).wf
theorem r6 {N:Nat} {t:Nat->aj} (hT:cF N t) (h:e9 N t=true):∀i,i<N->(t i).OK:=λi hi=>by
 have:=aah.1 h i (aan.2 hi)
 simp only [aac,aah,aab] at this
 obtain ⟨⟨⟨⟨h1,h2⟩,h3⟩,h4⟩,h5⟩:=this
 exact ⟨h4,⟨hT.key i hi,h1⟩,⟨hT.sign i hi,h2⟩,⟨hT.par i hi,h3⟩,h5⟩
theorem KS {N:Nat} {t:Nat->aj} (h:∀i,i<N->(t i).OK):e9 N t=true:=aah.2 λi hi=>by
 have g:=h i (aan.1 hi)
 simp only [aac,aah,aab]
 exact ⟨⟨⟨⟨g.key.2,g.sign.2⟩,g.par.2⟩,g.name⟩,g.un⟩
def Gu:Entry prog:=.val 36 _ func36 (by decide) rfl true 0 (λvs=>match vs with
 | [.aJ false 99 N g,.int .i64 x,.ro false .i64 wo]=>some (.agg [.ints .u8 32 (cr (ag g) wo x)],[],bF N g&&decide (N<=71)&&decide (wo.length<=274877906944)&&qt N (ag g) x&&e9 N (ag g))
 |_=>none) λvs v new e=>by
 split at e
 ·simp only [No,aae,aac,aab] at e
  obtain ⟨rfl,rfl,⟨⟨⟨h1,h2⟩,h3⟩,h4⟩,h5⟩:=e
  unfold qt at h4
  simp only [aac,aab] at h4
  obtain ⟨⟨q0,q1⟩,q2⟩:=h4
  have hT:=cF.of h1 h2
  rw [<-Gt hT q2 h3 (r6 hT h5) q0 q1]
  exact ai.conv (AR (y7 8) hT (y8 hT q2 h3 q0 q1)) ⟨VE.tree h1,VE.refl _,VE.refl _,trivial⟩ trivial (VE.refl _) trivial
 ·cases e
def DS:Entry prog:=.val 36 _ func36 (by decide) rfl true 0 (λvs=>match vs with
 | [.aJ false 99 N g,.int .i64 x,.nl (.slice none 0 0)]=>some (.agg [.ints .u8 32 (cr (ag g) [] x)],[],bF N g&&decide (N<=71)&&qt N (ag g) x&&e9 N (ag g))
 |_=>none) λvs v new e=>by
 split at e
 ·simp only [No,aae,aac,aab] at e
  obtain ⟨rfl,rfl,⟨⟨h1,h2⟩,h4⟩,h5⟩:=e
  unfold qt at h4
  simp only [aac,aab] at h4
  obtain ⟨⟨q0,q1⟩,q2⟩:=h4
  have hT:=cF.of h1 h2
  rw [<-Gt hT q2 (by simp) (r6 hT h5) q0 q1]
  exact ai.conv (AR (y7 8) hT (y8 (wo:=[]) hT q2 (by simp) q0 q1)) ⟨VE.tree h1,VE.refl _,VE.nN false .i64,trivial⟩ trivial (VE.refl _) trivial
 ·cases e
def Wf (l:List (Nat×Bool)):bO:=mk (P:=prog) [DS] [] (uT l)
theorem KU (l:List (Nat×Bool)):ak prog (Wf l):=az _ aL.nil _ _
theorem Wg (N:Nat) (t:Nat->aj):(aG prog (Wf []) 60 f35 [.aJ false 99 N (aq t)] []).map (λx=>(x.1,x.2.2))=some (.agg [.ints .u8 32 (cr t [] (i64.wrap ((N:Int).tdiv 2)))],aa true (aa true ((bF N λi=>af (aq t i))&&decide (N<=71)&&qt N (ag λi=>af (aq t i)) (i64.wrap ((((N:Nat):Int)).tdiv 2))&&e9 N (ag λi=>af (aq t i))))):=by kernel_rfl
theorem Gv {N:Nat} {t:Nat->aj} (hT:cF N t) (hq:qt N t ((N/2:Nat):Int)=true) (hb:e9 N t=true):ai prog 35 [.aJ false 99 N (aq t)] [] (.agg [.ints .u8 32 (cr t [] ((N/2:Nat):Int))]) []:=by
 have hok:bF N (λi=>af (aq t i))=true:=bq hT
 have e:=Wg N t
 rw [Ol hT.le] at e
 exact aI (KU _) 60 func35 e (by rw [hok,Me hT.le,show qt N (ag λi=>af (aq t i)) _=true from hq,show e9 N (ag λi=>af (aq t i))=true from hb];rfl) rfl
def Qt:Entry prog:=.val 35 _ func35 (by decide) rfl true 0 (λvs=>match vs with
 | [.aJ false 99 N g]=>some (.agg [.ints .u8 32 (cr (ag g) [] ((N/2:Nat):Int))],[],bF N g&&decide (N<=71)&&qt N (ag g) ((N/2:Nat):Int)&&e9 N (ag g))
 |_=>none) λvs v new e=>by
 split at e
 ·simp only [No,aae,aac,aab] at e
  obtain ⟨rfl,rfl,⟨⟨h1,h2⟩,h4⟩,h5⟩:=e
  exact ai.conv (Gv (cF.of h1 h2) h4 h5) ⟨VE.tree h1,trivial⟩ trivial (VE.refl _) trivial
 ·cases e
end Go.Proofs.YthlnlcijnoadcaaGreatDoor.Mk
end
section
namespace Go.Proofs.YthlnlcijnoadcaaGreatDoor.Mk
open Go Go.Sy Tr Wi S2
open Q2 (bD ku By iN)
def JY:Code:=aP f32
def DT (N:Nat) (t:Nat->aj) (i:Int):St:=⟨slotsOf 21 [(5,.aJ false 99 N (aq t)),(6,.int .i64 N),(7,.int .i64 i)],[],true⟩
def rK (k r:Nat) (b:Bool):St:=⟨slotsOf k [(r,.bool b)],[],true⟩
theorem KV (N:Nat) (t:Nat->aj):aA (ah [5,6,7] 0 ((aE prog (jo []) 60 0 2 (atoms JY) ⟨aD f32.ntmps [.aJ false 99 N (aq t)],[],true⟩).map λs=>(Exit.normal,s)))=some (.normal,(DT N t 0).t,[]):=by kernel_rfl
theorem Gw (N:Nat) (t:Nat->aj):aZ (ah [5,6,7] 0 ((aE prog (jo []) 60 0 2 (atoms JY) ⟨aD f32.ntmps [.aJ false 99 N (aq t)],[],true⟩).map λs=>(Exit.normal,s)))=(true):=by kernel_rfl
theorem Wh (N:Nat) (t:Nat->aj) (i:Int):aA (ah [5,6,7] 0 (exec prog (jo [(8,true),(13,false),(18,false)]) 60 0 (inner (inner (au 2 JY))) (DT N t i)))=some (.normal,(DT N t (i64.wrap (i+1))).t,[]):=by kernel_rfl
theorem Qu (N:Nat) (t:Nat->aj) (i:Int):aZ (ah [5,6,7] 0 (exec prog (jo [(8,true),(13,false),(18,false)]) 60 0 (inner (inner (au 2 JY))) (DT N t i)))=(aa (aa (aa (aa (aa true (decide (i<((N:Nat):Int)))) (aX i N)) (true&&(decide (i.toNat<N)&&true))) !decide (i>40)) !decide ((((t i.toNat).un.length:Nat):Int)>50)):=by kernel_rfl
theorem abR (N:Nat) (t:Nat->aj) (i:Int):aA (ah [2] 0 (exec prog (jo [(8,true),(13,true)]) 60 0 (inner (inner (au 2 JY))) (DT N t i)))=some (.ret,(rK 21 2 true).t,[]):=by kernel_rfl
theorem Wj (N:Nat) (t:Nat->aj) (i:Int):aZ (ah [2] 0 (exec prog (jo [(8,true),(13,true)]) 60 0 (inner (inner (au 2 JY))) (DT N t i)))=(aa (aa (aa (aa true (decide (i<((N:Nat):Int)))) (aX i N)) (true&&(decide (i.toNat<N)&&true))) (decide (i>40))):=by kernel_rfl
theorem abT (N:Nat) (t:Nat->aj) (i:Int):aA (ah [2] 0 (exec prog (jo [(8,true),(13,false),(18,true)]) 60 0 (inner (inner (au 2 JY))) (DT N t i)))=some (.ret,(rK 21 2 true).t,[]):=by kernel_rfl
theorem Wk (N:Nat) (t:Nat->aj) (i:Int):aZ (ah [2] 0 (exec prog (jo [(8,true),(13,false),(18,true)]) 60 0 (inner (inner (au 2 JY))) (DT N t i)))=(aa (aa (aa (aa (aa true (decide (i<((N:Nat):Int)))) (aX i N)) (true&&(decide (i.toNat<N)&&true))) !decide (i>40)) (decide ((((t i.toNat).un.length:Nat):Int)>50))):=by kernel_rfl
theorem Qv (N:Nat) (t:Nat->aj) (i:Int):aA (ah [] 0 (exec prog (jo [(8,false)]) 60 0 (inner (inner (au 2 JY))) (DT N t i)))=some (.exit 0,slotsOf 21 [],[]):=by kernel_rfl
theorem KW (N:Nat) (t:Nat->aj) (i:Int):aZ (ah [] 0 (exec prog (jo [(8,false)]) 60 0 (inner (inner (au 2 JY))) (DT N t i)))=(aa true !decide (i<((N:Nat):Int))):=by kernel_rfl
section
variable {N M:Nat} {t u:Nat->aj}
def lhJ (t:Nat->aj) (i:Nat):Bool:=!decide ((i:Int)>40)&&!decide (((t i).un.length:Int)>50)
def Gx (N:Nat) (t:Nat->aj):Bool:=bP (lhJ t) N (λ_=>true) false
theorem DU:ai prog 32 [.aJ false 99 N (aq t)] [] (.bool (Gx N t)) []:=by
 have key:=ai.scan (P:=prog) (args:=[.aJ false 99 N (aq t)]) (h:=[]) (h':=[]) func32 rfl 2 0 (λj:Nat=>DT N t ((j:Nat):Int)) (lhJ t) N
  (λx s' g=>aV.bk (cK []) 60 2 _ 0 (by simp) (s1:=DT N t ((0:Nat):Int)) _ (KV N t) (Gw N t) rfl (by decide) rfl g) (by decide) (by kernel_rfl)
  (λj hj hb _=>?_) (λi=>rK 21 2 true) (λi=>[.bool true]) (λj hj hb _=>⟨?_,rfl,rfl⟩) (sE:=⟨slotsOf 21 [],[],true⟩) (uM:=rK 21 2 false) (vE:=[.bool false]) (xE:=.ret) (λ_=>?_) (λ_=>⟨?_,.inl rfl,rfl,rfl⟩)
 ·rw [bX (g:=SV.bool) (vF:=λ_:Nat=>true) (vE:=false)] at key
  exact key
 ·unfold lhJ at hb
  obtain ⟨h1,h2⟩:=abS.1 hb
  have h40:¬((j:Int)>40):=by
   intro q
   rw [Me q] at h1
   cases h1
  have e:=Wh N t j
  rw [cq (by omega)] at e
  exact Tr.aR (cK [(8,true),(13,false),(18,false)]) 60 _ 0 (aaf _) (s':=DT N t ((j+1:Nat):Int)) _ e (Qu N t j) (by
   rw [aaa,fo hj,bf hj,Me hj,h1,h2];rfl)
 ·cases h1:decide ((j:Int)>40) with
  |true=>exact Tr.aR (cK [(8,true),(13,true)]) 60 _ 0 (aaf _) (s':=rK 21 2 true) _ (abR N t j) (Wj N t j) (by rw [aaa,fo hj,bf hj,Me hj,h1];rfl)
  |false=>
   unfold lhJ at hb
   rw [h1] at hb
   have h2:decide (((t j).un.length:Int)>50)=true:=by simpa using hb
   exact Tr.aR (cK [(8,true),(13,false),(18,true)]) 60 _ 0 (aaf _) (s':=rK 21 2 true) _ (abT N t j) (Wk N t j) (by rw [aaa,fo hj,bf hj,Me hj,h1,h2];rfl)
 ·exact Tr.aR (cK [(8,false)]) 60 _ 0 (aaf _) (s':=⟨slotsOf 21 [],[],true⟩) _ (Qv N t _) (KW N t _) (by rw [fA (aaf _)];rfl)
 ·exact aV.rest (cK []) 60 (by kernel_rfl) rfl
def Cd (N:Nat) (t:Nat->aj):Prop:=∀i,i<N->jH (t i).key (t i).sign (t i).par (t i).un=true
def uO (a b:aj):Bool:=kq a.used b.used a.name b.name a.key a.sign a.par a.un b.key b.sign b.par b.un
def tT (N M:Nat) (t u:Nat->aj):Bool:=!((N:Int) != (M:Int))&&bP (λi=>uO (t i) (u i)) N (λ_=>false) true
end
def aaj:Entry prog:=.val 32 _ func32 (by decide) rfl true 0 (λvs=>match vs with
 | [.aJ false 99 N g]=>some (.bool (Gx N (ag g)),[],qw N g)
 |_=>none) λvs v new e=>by
 split at e
 ·rename_i N g
  simp only [No,aae] at e
  obtain ⟨rfl,rfl,h1⟩:=e
  exact ai.conv (DU (t:=ag g)) ⟨VE.Gy λi hi=>vN (aah.1 h1 i (aan.2 hi)),trivial⟩ trivial (VE.refl _) trivial
 ·cases e
def Qw (b:Bool) (l:List (Nat×Bool)):bO:=mk (P:=prog) [tM b] [] (uT l)
theorem Ce (b:Bool) (l:List (Nat×Bool)):ak prog (Qw b l):=az _ aL.nil _ _
theorem Wl (t:Nat->aj):(aG prog (Qw true []) 60 f37 [.aJ false 99 1 (aq t)] []).map (λx=>(x.1,x.2.2))=some (.bool true,aa true (aa true ((bF 1 λi=>af (aq t i))&&true&&aM 1 (ag λi=>af (aq t i))==true))):=by kernel_rfl
theorem Wm (t:Nat->aj):(aG prog (Qw false []) 60 f37 [.aJ false 99 1 (aq t)] []).map (λx=>(x.1,x.2.2))=some (.bool false,aa true (aa true ((bF 1 λi=>af (aq t i))&&true&&aM 1 (ag λi=>af (aq t i))==false))):=by kernel_rfl
theorem DV {t:Nat->aj} (hT:cF 1 t):ai prog 37 [.aJ false 99 1 (aq t)] [] (.bool (aM 1 t)) []:=by
 have hok:bF 1 (λi=>af (aq t i))=true:=bq hT
 cases h:aM 1 t with
 |true=>exact aI (Ce true _) 60 func37 (Wl t) (by rw [hok,show aM 1 (ag λi=>af (aq t i))=true from h];rfl) rfl
 |false=>exact aI (Ce false _) 60 func37 (Wm t) (by rw [hok,show aM 1 (ag λi=>af (aq t i))=false from h];rfl) rfl
def KX:Entry prog:=.val 37 _ func37 (by decide) rfl true 0 (λvs=>match vs with
 | [.aJ false 99 1 g]=>some (.bool (aM 1 (ag g)),[],bF 1 g)
 |_=>none) λvs v new e=>by
 split at e
 ·simp only [No,aae] at e
  obtain ⟨rfl,rfl,h1⟩:=e
  exact ai.conv (DV (cF.of h1 (by decide))) ⟨VE.tree h1,trivial⟩ trivial (VE.refl _) trivial
 ·cases e
def KY (l:List (Nat×Bool)):bO:=mk (P:=prog) [Qh,Qt,KX] [] (uT l)
theorem Cf (l:List (Nat×Bool)):ak prog (KY l):=az _ aL.nil _ _
end Go.Proofs.YthlnlcijnoadcaaGreatDoor.Mk
end
