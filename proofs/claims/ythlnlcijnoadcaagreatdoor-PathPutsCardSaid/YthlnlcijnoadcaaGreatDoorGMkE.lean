/- This file holds the texts MkC, MkD, MkE, a section each. No conditions beyond those in the theorems. -/
import Derived.Test.YthlnlcijnoadcaaGreatDoorGMkB
import Derived.Test.YthlnlcijnoadcaaGreatDoorGTtB
import Derived.Test.YthlnlcijnoadcaaGreatDoorGTsN
noncomputable section
open Go.Proofs.Tryz
open Go.IntKind (i64 u8 u64 u32)
set_option linter.all false
set_option maxRecDepth 100000
section
namespace Go.Proofs.YthlnlcijnoadcaaGreatDoor.Mk
open Go Go.Sy Tr Wi S2
def qt (N:Nat) (t:Nat->aj) (x:Int):Bool:=decide (0<=x)&&decide (x<N)&&aM N t
def UQ (N:Nat) (t:Nat->aj) (wo:List Int) (x:Int):List Int:=bif qt N t x then cr t wo x else cH
theorem Gn {un wo:List Int}:(b5 un wo).Sublist un:=List.filter_sublist
theorem DL {un:List Int} (h:un.Pairwise (· < ·)):vL un=true:=aah.2 λi hi=>by
 have hi:=aan.1 hi
 rw [aaY]
 by_cases h0:i>0
 ·rw [Me h0,abb]
  have:=List.pairwise_iff_getElem.1 h (i-1) i (by omega) hi (by omega)
  rw [bY hi,bY (by omega:i-1<un.length)]
  exact aam (by omega)
 ·rw [aam h0,adw]
theorem KH {un:List Int} (h:∀j,j+1<un.length->un.getD j 0<un.getD (j+1) 0):un.Pairwise (· < ·):=by
 have key:∀d i,i+d+1<un.length->un.getD i 0<un.getD (i+d+1) 0:=by
  intro d
  induction d with
  |zero=>intro i hi;exact h i hi
  |succ d ih=>
   intro i hi
   have a:=ih i (by omega)
   have b:=h (i+d+1) (by omega)
   rw [show i+(d+1)+1=i+d+1+1 by omega]
   omega
 refine List.pairwise_iff_getElem.2 λi j hi hj hij=>?_
 have:=key (j-i-1) i (by omega)
 rw [show i+(j-i-1)+1=j by omega,bY hi,bY hj] at this
 exact this
section
variable {N n:Nat} {t:Nat->aj}
theorem y4 (hT:cF N t) (hn:n∈sizes) (hN:N=2*n-1) {x:Nat} (hx:x<N) (g:eW t n x=true) {un:List Int} (hs:un.Sublist (t x).un):mH (t x) un=true:=by
 have hz:=bu hn
 have hk:=hT.key x hx
 have hg:=hT.sign x hx
 have hp:=hT.par x hx
 unfold eW at g
 have fin:∀(nm:Int),(t x).name=nm->0<=nm->nm<=255->(t x).un.Pairwise (· < ·)->(∀u∈(t x).un,0<=u/\u<32)->(t x).un.length<=32->((t x).used||tH (t x).name (t x).key (t x).sign (t x).par un)=true->mH (t x) un=true:=by
  intro nm h1 h2 h3 h4 h5 h6 h7
  unfold mH Wi.aQ
  have a1:tI un=true:=aah.2 λu hu=>by
   have:=h5 u (hs.subset hu)
   rw [Me this.1,Me (show u<=31 by omega)];rfl
  have a2:vL un=true:=DL (h4.sublist hs)
  have a3:=hs.length_le
  rw [Me hk,Me hg,Me hp,h1,Me h2,Me h3,a1,a2,Me (show un.length<=32 by omega), <-h1,h7];rfl
 cases hu:(t x).used with
 |false=>
  rw [hu] at g
  unfold om kq at g
  simp only [aeF,_root_.cond_true,aac,aab,aaS] at g
  have hun:=g.2
  have aby:un=[]:=List.sublist_nil.1 (hun▸hs)
  refine fin 0 (by simpa using g.1.1.1.1.2) (by omega) (by omega) (by rw [hun];exact List.Pairwise.nil) (by rw [hun];intro u h;cases h) (by rw [hun];simp) ?_
  rw [hu]
  unfold tH
  rw [aby]
  simp [g]
 |true=>
  rw [hu] at g
  cases hq:(x%2==0) with
  |true=>
   rw [hq] at g
   unfold DM at g
   simp only [Bool.not_true,_root_.cond_false,_root_.cond_true,aac,aaS,aab] at g
   obtain ⟨⟨⟨⟨_,l1⟩,l2⟩,l3⟩,_⟩:=g
   have hun:(t x).un=[]:=aaw.1 (by omega)
   exact fin _ rfl (by omega) l2 (by rw [hun];exact List.Pairwise.nil) (by rw [hun];intro u h;cases h) (by rw [hun];simp) (by rw [hu];rfl)
  |false=>
   rw [hq] at g
   obtain ⟨q1,q2⟩:=tJ hn (hN▸hx) g
   simp only [Bool.not_true,_root_.cond_false] at g
   unfold dZ at g
   simp only [aac,aaa] at g
   refine fin 0 (by simpa using g.1.1.1) (by omega) (by omega) (KH λj hj=>?_) (λu h=>by have:=q1 u h;omega) (by omega) (by rw [hu];rfl)
   exact (Gp (aah.1 g.2 (j+1) (aan.2 hj))).1
theorem qu (hT:cF N t) (h:aM N t=true) {wo:List Int} (hw:wo.length<=274877906944) {x:Int} (h0:0<=x) (h1:x<N):jc N t wo x 8=true:=by
 obtain ⟨n,hn,_,hN,hg⟩:=fH hT h
 obtain ⟨y,rfl⟩:=aaB h0
 refine tG (aah.2 λi hi=>?_) (tK hT h).2 hw (by omega) (by have:=tL 7 y;omega)
 have hi:=aan.1 hi
 rw [y4 hT hn hN hi (hg i hi) (List.Sublist.refl _),y4 hT hn hN hi (hg i hi) Gn];rfl
end
def V5 (b:Bool) (l:List (Nat×Bool)):bO:=mk (P:=prog) [tM b,Qc 8 (vK 8)] [] (uT l)
theorem xj (b:Bool) (l:List (Nat×Bool)):ak prog (V5 b l):=az _ aL.nil _ _
theorem abz (N:Nat) (t:Nat->aj) (x:Int) (wo:List Int):(aG prog (V5 true [(9,true)]) 60 f33 [.aJ false 99 N (aq t),.int .i64 x,.ro false .i64 wo] []).map (λx=>(x.1,x.2.2))=some (.bC [.agg [.ints .u8 32 cH],.bool false],aa true (decide (x<0))):=by kernel_rfl
theorem abA (N:Nat) (t:Nat->aj) (x:Int) (wo:List Int):(aG prog (V5 true [(9,false),(14,true)]) 60 f33 [.aJ false 99 N (aq t),.int .i64 x,.ro false .i64 wo] []).map (λx=>(x.1,x.2.2))=some (.bC [.agg [.ints .u8 32 cH],.bool false],aa (aa true !decide (x<0)) (decide (x>=((N:Nat):Int)))):=by kernel_rfl
theorem abD (N:Nat) (t:Nat->aj) (x:Int) (wo:List Int):(aG prog (V5 false [(9,false),(14,false)]) 60 f33 [.aJ false 99 N (aq t),.int .i64 x,.ro false .i64 wo] []).map (λx=>(x.1,x.2.2))=some (.bC [.agg [.ints .u8 32 cH],.bool false],aa (aa (aa true !decide (x<0)) !decide (x>=((N:Nat):Int))) (aa true ((bF N λi=>af (aq t i))&&decide (N<=71)&&aM N (ag λi=>af (aq t i))==false))):=by kernel_rfl
theorem abE (N:Nat) (t:Nat->aj) (x:Int) (wo:List Int):(aG prog (V5 true [(9,false),(14,false)]) 60 f33 [.aJ false 99 N (aq t),.int .i64 x,.ro false .i64 wo] []).map (λx=>(x.1,x.2.2))=some (.bC [.agg [.ints .u8 32 (cr t wo x)],.bool true],aa (aa (aa (aa true !decide (x<0)) !decide (x>=((N:Nat):Int))) (aa true ((bF N λi=>af (aq t i))&&decide (N<=71)&&aM N (ag λi=>af (aq t i))==true))) (aa true ((bF N λi=>af (aq t i))&&decide (N<=71)&&jc N (ag λi=>af (aq t i)) wo x 8))):=by kernel_rfl
section
variable {N:Nat} {t:Nat->aj} {wo:List Int} {x:Int}
theorem AQ (hT:cF N t) (hw:wo.length<=274877906944):ai prog 33 [.aJ false 99 N (aq t),.int .i64 x,.ro false .i64 wo] [] (.bC [.agg [.ints .u8 32 (UQ N t wo x)],.bool (qt N t x)]) []:=by
 have hok:bF N (λi=>af (aq t i))=true:=bq hT
 unfold UQ qt
 by_cases h0:x<0
 ·rw [aam (show ¬0<=x by omega)]
  exact aI (xj _ _) 60 func33 (abz N t x wo) (by rw [Me h0];rfl) rfl
 ·by_cases h1:x>=N
  ·rw [aam (show ¬x<(N:Int) by omega),acC,adw]
   exact aI (xj _ _) 60 func33 (abA N t x wo) (by rw [aam h0,Me h1];rfl) rfl
  ·rw [Me (show 0<=x by omega),Me (show x<(N:Int) by omega)]
   cases hc:aM N t with
   |false=>exact aI (xj _ _) 60 func33 (abD N t x wo) (by rw [aam h0,aam h1,hok,Me hT.le,show aM N (ag λi=>af (aq t i))=false from hc];rfl) rfl
   |true=>
    have hr:jc N (ag λi=>af (aq t i)) wo x 8=true:=qu (t:=t) hT hc hw (by omega) (by omega)
    exact aI (xj _ _) 60 func33 (abE N t x wo) (by rw [aam h0,aam h1,hok,Me hT.le,show aM N (ag λi=>af (aq t i))=true from hc,hr];rfl) rfl
end
def DN:Entry prog:=.val 33 _ func33 (by decide) rfl true 0 (λvs=>match vs with
 | [.aJ false 99 N g,.int .i64 x,.nl (.slice none 0 0)]=>some (.bC [.agg [.ints .u8 32 (UQ N (ag g) [] x)],.bool (qt N (ag g) x)],[],bF N g&&decide (N<=71))
 |_=>none) λvs v new e=>by
 split at e
 ·simp only [No,aae,aac,aab] at e
  obtain ⟨rfl,rfl,h1,h2⟩:=e
  exact ai.conv (AQ (wo:=[]) (cF.of h1 h2) (by simp)) ⟨VE.tree h1,VE.refl _,VE.nN false .i64,trivial⟩ trivial (VE.refl _) trivial
 ·cases e
def mtC (l:List (Nat×Bool)):bO:=mk (P:=prog) [DN] [] (uT l)
theorem Qg (l:List (Nat×Bool)):ak prog (mtC l):=az _ aL.nil _ _
theorem abF (N:Nat) (t:Nat->aj):(aG prog (mtC []) 60 f34 [.aJ false 99 N (aq t)] []).map (λx=>(x.1,x.2.2))=some (.bC [.agg [.ints .u8 32 (UQ N t [] (i64.wrap ((N:Int).tdiv 2)))],.bool (qt N t (i64.wrap ((N:Int).tdiv 2)))],aa true (aa true ((bF N λi=>af (aq t i))&&decide (N<=71)))):=by kernel_rfl
theorem Ol {N:Nat} (h:N<=71):i64.wrap ((N:Int).tdiv 2)=((N/2:Nat):Int):=by
 have q:((List.range 72).all λx=>i64.wrap ((x:Int).tdiv 2)==((x/2:Nat):Int))=true:=by decide+kernel
 exact eq_of_beq (aah.1 q N (aan.2 (by omega)))
theorem Gq {N:Nat} {t:Nat->aj} (hT:cF N t):ai prog 34 [.aJ false 99 N (aq t)] [] (.bC [.agg [.ints .u8 32 (UQ N t [] ((N/2:Nat):Int))],.bool (qt N t ((N/2:Nat):Int))]) []:=by
 have hok:bF N (λi=>af (aq t i))=true:=bq hT
 have e:=abF N t
 rw [Ol hT.le] at e
 exact aI (Qg _) 60 func34 e (by rw [hok,Me hT.le];rfl) rfl
def Qh:Entry prog:=.val 34 _ func34 (by decide) rfl true 0 (λvs=>match vs with
 | [.aJ false 99 N g]=>some (.bC [.agg [.ints .u8 32 (UQ N (ag g) [] ((N/2:Nat):Int))],.bool (qt N (ag g) ((N/2:Nat):Int))],[],bF N g&&decide (N<=71))
 |_=>none) λvs v new e=>by
 split at e
 ·simp only [No,aae,aac,aab] at e
  obtain ⟨rfl,rfl,h1,h2⟩:=e
  exact ai.conv (Gq (cF.of h1 h2)) ⟨VE.tree h1,trivial⟩ trivial (VE.refl _) trivial
 ·cases e
end Go.Proofs.YthlnlcijnoadcaaGreatDoor.Mk
end
section
namespace Go.Proofs.YthlnlcijnoadcaaGreatDoor.Mk
open Go Go.Sy Tr Wi S2
def jo (l:List (Nat×Bool)):bO:=mk (P:=prog) [] [] (uT l)
theorem cK (l:List (Nat×Bool)):ak prog (jo l):=az _ aL.nil _ _
def EW:Code:=aP f126
abbrev JX (c nm:Int) (k s p un:List Int):List Int:=([c,u8.wrap nm]++k++s++p)++[u8.wrap (un.length:Int)]
def dS (u:Bool) (nm:Int) (k s p un:List Int):List Int:=JX (bif u then 1 else 0) nm k s p un++un.map u8.wrap
def tN (u:Bool) (nm:Int) (k s p un:List Int) (n:Nat) (xs:List Int) (i:Int):St:=⟨slotsOf 47 [(1,.ptr 0 0 0),(3,.sl 1 0 0 1 n n false true),(4,.int .i64 i)],[.b [.bool u,.int .i64 nm,.ints .u8 32 k,.ints .u8 32 s,.ints .u8 32 p,.ro false .i64 un],.b [.ints .u8 n xs]],true⟩
theorem V6 (u:Bool) (nm:Int) (k s p un:List Int):aA (ah [1,3,4] 2 ((aE prog (jo [(10,true),(16,true),(19,true),(22,true)]) 60 0 7 (atoms EW) ⟨aD f126.ntmps [pM u nm k s p un],[],true⟩).map λs=>(Exit.normal,s)))=some (.normal,(tN u nm k s p un 99 (JX 1 nm k s p un) 0).t,(tN u nm k s p un 99 (JX 1 nm k s p un) 0).h):=by kernel_rfl
theorem Qi (u:Bool) (nm:Int) (k s p un:List Int):aZ (ah [1,3,4] 2 ((aE prog (jo [(10,true),(16,true),(19,true),(22,true)]) 60 0 7 (atoms EW) ⟨aD f126.ntmps [pM u nm k s p un],[],true⟩).map λs=>(Exit.normal,s)))=(aa (aa (aa (aa (aa (aa true u) (true&&decide ((((List.replicate 2 0).set 0 0).set (0+1+0) (u8.wrap nm)).length=2))) (aa (aa (decide (k.length=32)&&true) (decide (((((List.replicate 2 0).set 0 0).set (0+1+0) (u8.wrap nm)).set (0+Int.toNat 0) 1).length=2)&&true)) (decide (((((List.replicate 2 0).set 0 0).set (0+1+0) (u8.wrap nm)).set (0+Int.toNat 0) 1).length=2)))) (aa (aa (decide (s.length=32)&&true) (decide (((((List.replicate 2 0).set 0 0).set (0+1+0) (u8.wrap nm)).set (0+Int.toNat 0) 1++k).length=2+32)&&true)) (decide (((((List.replicate 2 0).set 0 0).set (0+1+0) (u8.wrap nm)).set (0+Int.toNat 0) 1++k).length=2+32)))) (aa (aa (decide (p.length=32)&&true) (decide (((((List.replicate 2 0).set 0 0).set (0+1+0) (u8.wrap nm)).set (0+Int.toNat 0) 1++k++s).length=(2+32)+32)&&true)) (decide (((((List.replicate 2 0).set 0 0).set (0+1+0) (u8.wrap nm)).set (0+Int.toNat 0) 1++k++s).length=(2+32)+32)))) (aa (aa (aa (decide (((List.replicate 1 0).set 0 (u8.wrap ((un.length:Nat):Int))).length=1)&&true) (decide (((((List.replicate 2 0).set 0 0).set (0+1+0) (u8.wrap nm)).set (0+Int.toNat 0) 1++k++s++p).length=((2+32)+32)+32)&&true)) (decide (((((List.replicate 2 0).set 0 0).set (0+1+0) (u8.wrap nm)).set (0+Int.toNat 0) 1++k++s++p).length=((2+32)+32)+32))) true)):=by kernel_rfl
theorem V7 (u:Bool) (nm:Int) (k s p un:List Int):aA (ah [1,3,4] 2 ((aE prog (jo [(10,false),(16,true),(19,true),(22,true)]) 60 0 7 (atoms EW) ⟨aD f126.ntmps [pM u nm k s p un],[],true⟩).map λs=>(Exit.normal,s)))=some (.normal,(tN u nm k s p un 99 (JX 0 nm k s p un) 0).t,(tN u nm k s p un 99 (JX 0 nm k s p un) 0).h):=by kernel_rfl
theorem Qj (u:Bool) (nm:Int) (k s p un:List Int):aZ (ah [1,3,4] 2 ((aE prog (jo [(10,false),(16,true),(19,true),(22,true)]) 60 0 7 (atoms EW) ⟨aD f126.ntmps [pM u nm k s p un],[],true⟩).map λs=>(Exit.normal,s)))=(aa (aa (aa (aa (aa true !u) (aa (aa (decide (k.length=32)&&true) (decide ((((List.replicate 2 0).set 0 0).set (0+1+0) (u8.wrap nm)).length=2)&&true)) (decide ((((List.replicate 2 0).set 0 0).set (0+1+0) (u8.wrap nm)).length=2)))) (aa (aa (decide (s.length=32)&&true) (decide ((((List.replicate 2 0).set 0 0).set (0+1+0) (u8.wrap nm)++k).length=2+32)&&true)) (decide ((((List.replicate 2 0).set 0 0).set (0+1+0) (u8.wrap nm)++k).length=2+32)))) (aa (aa (decide (p.length=32)&&true) (decide ((((List.replicate 2 0).set 0 0).set (0+1+0) (u8.wrap nm)++k++s).length=(2+32)+32)&&true)) (decide ((((List.replicate 2 0).set 0 0).set (0+1+0) (u8.wrap nm)++k++s).length=(2+32)+32)))) (aa (aa (aa (decide (((List.replicate 1 0).set 0 (u8.wrap ((un.length:Nat):Int))).length=1)&&true) (decide ((((List.replicate 2 0).set 0 0).set (0+1+0) (u8.wrap nm)++k++s++p).length=((2+32)+32)+32)&&true)) (decide ((((List.replicate 2 0).set 0 0).set (0+1+0) (u8.wrap nm)++k++s++p).length=((2+32)+32)+32))) true)):=by kernel_rfl
theorem Qk (u:Bool) (nm:Int) (k s p un:List Int) (n:Nat) (xs:List Int) (i:Int):aA (ah [1,3,4] 2 (exec prog (jo [(34,true)]) 60 0 (inner (inner (au 7 EW))) (tN u nm k s p un n xs i)))=some (.normal,(tN u nm k s p un (n+1) (xs++[u8.wrap (un.getD i.toNat 0)]) (i64.wrap (i+1))).t,(tN u nm k s p un (n+1) (xs++[u8.wrap (un.getD i.toNat 0)]) (i64.wrap (i+1))).h):=by kernel_rfl
theorem KI (u:Bool) (nm:Int) (k s p un:List Int) (n:Nat) (xs:List Int) (i:Int):aZ (ah [1,3,4] 2 (exec prog (jo [(34,true)]) 60 0 (inner (inner (au 7 EW))) (tN u nm k s p un n xs i)))=(aa (aa (aa (aa true (decide (i<((un.length:Nat):Int)))) (aX i un.length)) (decide (i.toNat<un.length))) (aa (aa (aa (aa (decide (((List.replicate 1 0).set 0 (u8.wrap (un.getD i.toNat 0))).length=1)&&true) (decide (xs.length=n)&&(decide (n<=n)&&true))) (decide (xs.length=n))) true) (decide (n+1<=2^38)))):=by kernel_rfl
theorem Ql (u:Bool) (nm:Int) (k s p un:List Int) (n:Nat) (xs:List Int) (i:Int):aA (ah [3] 2 (exec prog (jo [(34,false)]) 60 0 (inner (inner (au 7 EW))) (tN u nm k s p un n xs i)))=some (.exit 0,slotsOf 47 [(3,.sl 1 0 0 1 n n false true)],(tN u nm k s p un n xs i).h):=by kernel_rfl
theorem KJ (u:Bool) (nm:Int) (k s p un:List Int) (n:Nat) (xs:List Int) (i:Int):aZ (ah [3] 2 (exec prog (jo [(34,false)]) 60 0 (inner (inner (au 7 EW))) (tN u nm k s p un n xs i)))=(aa true !decide (i<((un.length:Nat):Int))):=by kernel_rfl
theorem Qm (u:Bool) (nm:Int) (k s p un:List Int) (n:Nat) (xs:List Int) (i:Int):aA (ah [2] 2 (cn prog (jo []) 60 0 ((atoms EW).drop 8) ⟨slotsOf 47 [(3,.sl 1 0 0 1 n n false true)],(tN u nm k s p un n xs i).h,true⟩))=some (.ret,slotsOf 47 [(2,.sl 1 0 0 1 n n false true)],(tN u nm k s p un n xs i).h):=by kernel_rfl
theorem KK (u:Bool) (nm:Int) (k s p un:List Int) (n:Nat) (xs:List Int) (i:Int):aZ (ah [2] 2 (cn prog (jo []) 60 0 ((atoms EW).drop 8) ⟨slotsOf 47 [(3,.sl 1 0 0 1 n n false true)],(tN u nm k s p un n xs i).h,true⟩))=(true):=by kernel_rfl
section
variable {u:Bool} {nm:Int} {k s p un:List Int}
theorem Gr {f:Int->Int} {l:List Int} {i:Nat} (h:i<l.length):(l.take i).map f++[f (l.getD i 0)]=(l.take (i+1)).map f:=by
 rw [List.take_add_one,aai h,List.map_append,bY h];rfl
theorem tO (hk:k.length=32) (hs:s.length=32) (hp:p.length=32) (hu:un.length<=100):ai prog 126 [pM u nm k s p un] [] (.ro true .u8 (dS u nm k s p un)) []:=by
 have hlen:(dS u nm k s p un).length=99+un.length:=by unfold dS;simp [hk,hs,hp];omega
 refine ai.jG (ex:=false) (wh:=true) (N:=(dS u nm k s p un).length) (ai.yN (v:=.sl 1 0 0 1 (99+un.length) (99+un.length) false true) (h1:=(tN u nm k s p un (99+un.length) (dS u nm k s p un) 0).h) [1] ?_ (by rw [hlen];rfl)) rfl
 have hP:∀c,(JX c nm k s p un).length=99:=λc=>by simp [hk,hs,hp]
 have core:aV prog none 0 ((atoms EW).drop 7) (tN u nm k s p un 99 (JX (bif u then 1 else 0) nm k s p un) 0) .ret ⟨slotsOf 47 [(2,.sl 1 0 0 1 (99+un.length) (99+un.length) false true)],(tN u nm k s p un (99+un.length) (dS u nm k s p un) 0).h,true⟩:=by
  generalize hc:JX (bif u then 1 else 0) nm k s p un=base
  have hb:base.length=99:=hc▸hP _
  have hR:dS u nm k s p un=base++un.map u8.wrap:=by unfold dS;rw [hc]
  rw [hR]
  have key:Tr prog none 0 (au 7 EW) (tN u nm k s p un (99+0) (base++(un.take 0).map u8.wrap) ((0:Nat):Int)) .normal ⟨slotsOf 47 [(3,.sl 1 0 0 1 (99+un.length) (99+un.length) false true)],(tN u nm k s p un (99+un.length) (base++un.map u8.wrap) 0).h,true⟩:=by
   refine Tr.loop 0 (by kernel_rfl) (λj=>tN u nm k s p un (99+j) (base++(un.take j).map u8.wrap) ((j:Nat):Int)) un.length (λj hj=>?_) ?_
   ·have e:=Qk u nm k s p un (99+j) (base++(un.take j).map u8.wrap) j
    rw [aaa,cq (by omega),aaE,Gr hj,Nat.add_assoc] at e
    refine Tr.aR (cK [(34,true)]) 60 _ 2 (aap _) (s':=tN u nm k s p un (99+(j+1)) (base++(un.take (j+1)).map u8.wrap) ((j+1:Nat):Int)) _ e (KI u nm k s p un _ _ _) ?_
    rw [fo hj,bf hj,aaa]
    simp [aC,hj,hb,ab6 (Nat.le_of_lt hj)]
    omega
   ·have e:=Ql u nm k s p un (99+un.length) (base++(un.take un.length).map u8.wrap) un.length
    rw [adA] at e ⊢
    exact Tr.aR (cK [(34,false)]) 60 _ 2 (aap _) _ e (KJ u nm k s p un _ _ _) (by rw [fA (aaf _)];rfl)
  rw [List.take_zero,List.map_nil,aaz] at key
  exact aV.item 7 (by decide) key (aV.og (cK []) 60 _ 2 (aap _) _ (Qm u nm k s p un (99+un.length) (base++un.map u8.wrap) 0) (KK u nm k s p un _ _ _) rfl (by intro q;have:=adX List.length q;revert this;decide))
 refine ai.mk (vs:=[.sl 1 0 0 1 (99+un.length) (99+un.length) false true]) func126 rfl (x:=.ret) (s:=⟨slotsOf 47 [(2,.sl 1 0 0 1 (99+un.length) (99+un.length) false true)],(tN u nm k s p un (99+un.length) (dS u nm k s p un) 0).h,true⟩) ?_ (.inl rfl) (by kernel_rfl)
 cases u with
 |true=>exact aV.bk (cK [(10,true),(16,true),(19,true),(22,true)]) 60 7 _ 2 (aap _) _ (V6 true nm k s p un) (Qi true nm k s p un) (by simp [aC,hk,hs,hp]) (by decide) rfl core
 |false=>exact aV.bk (cK [(10,false),(16,true),(19,true),(22,true)]) 60 7 _ 2 (aap _) _ (V7 false nm k s p un) (Qj false nm k s p un) (by simp [aC,hk,hs,hp]) (by decide) rfl core
end
def y5:Entry prog:=.val 126 _ func126 (by decide) rfl true 0 (λvs=>match vs with
 | [.agg [.bool u,.int .i64 nm,.ints .u8 32 k,.ints .u8 32 s,.ints .u8 32 p,.ro false .i64 un]]=>some (.ro true .u8 (dS u nm k s p un),[],decide (k.length=32)&&decide (s.length=32)&&decide (p.length=32)&&decide (un.length<=100))
 |_=>none) λvs v new e=>by
 split at e
 ·simp only [No,aae,aac,aab] at e
  obtain ⟨rfl,rfl,⟨⟨h1,h2⟩,h3⟩,h4⟩:=e
  exact tO h1 h2 h3 h4
 ·cases e
end Go.Proofs.YthlnlcijnoadcaaGreatDoor.Mk
end
section
namespace Go.Sy
open Go
section
variable {k:Nat}
theorem bE.mF {t:List (Option SV)} {h:List Blk} {o o':Bool} (i:Nat) (hi:t[i]? =some (some (.nl (.slice none 0 0)))) (K:IntKind) (ex wh:Bool):bE k ⟨t,h,o⟩ ⟨t.set i (some (.sl h.length 0 0 1 0 0 ex wh)),h++[.b [.ints K 0 []]],o'⟩:=
 λB e w t' _ hl R=>⟨e,rfl,⟨by simpa using hl.1,λj v v' a c=>by
  by_cases hij:i=j
  ·subst hij
   rw [aay (aal.1 hi).1] at a
   simp only [No] at a
   subst a
   have h1:v'= .slice none 0 0:=hl.2 i _ v' hi c
   exact .inl ⟨rfl,rfl,none,h1⟩
  ·rw [aau hij] at a
   exact hl.2 j v v' a c⟩,by
  have:=R.nothing (j:=h.length) (ps:=[.ints K 0 []]) (.inl rfl) rfl
  unfold bI at this
  rw [aaM rfl] at this
  exact this⟩
end
end Go.Sy
namespace Go.Proofs.YthlnlcijnoadcaaGreatDoor.Mk
open Go Go.Sy Tr Wi S2
open Q2 (bD ku By)
theorem y6 {u:Bool} {nm:Int} {k s p:List Int} (hk:k.length=32) (hs:s.length=32) (hp:p.length=32):ai prog 126 [.agg [.bool u,.int .i64 nm,.ints .u8 32 k,.ints .u8 32 s,.ints .u8 32 p,.nl (.slice none 0 0)]] [] (.ro true .u8 (dS u nm k s p [])) []:=
 ai.conv (tO hk hs hp (by simp)) ⟨VE.agg (PE.last (ps:=[.bool u,.int .i64 nm,.ints .u8 32 k,.ints .u8 32 s,.ints .u8 32 p]) rfl rfl (VE.nN false .i64)),trivial⟩ trivial (VE.refl _) trivial
def DO:Entry prog:=.val 126 _ func126 (by decide) rfl true 0 (λvs=>match vs with
 | [.agg [.bool u,.int .i64 nm,.ints .u8 32 k,.ints .u8 32 s,.ints .u8 32 p,.nl (.slice none 0 0)]]=>some (.ro true .u8 (dS u nm k s p []),[],decide (k.length=32)&&decide (s.length=32)&&decide (p.length=32))
 |_=>none) λvs v new e=>by
 split at e
 ·simp only [No,aae,aac,aab] at e
  obtain ⟨rfl,rfl,⟨h1,h2⟩,h3⟩:=e
  exact y6 h1 h2 h3
 ·cases e
def dx (n:aj) (un:List Int):List Int:=dS n.used n.name n.key n.sign n.par un
def cM (un wo:List Int):List Int:=un.filter λu=>!vf u wo
def jf (t:Nat->aj) (wo:List Int):Nat->Nat->List Int
 |0,x=>[1,((x/2:Nat):Int)]++bif vf ((x/2:Nat):Int) wo then dS false 0 cH cH cH [] else dx (t x) (t x).un
 |k+1,x=>(([2]++dx (t x) (cM (t x).un wo))++bD (jf t wo k (x-2^k)))++bD (jf t wo k (x+2^k))
def eC (t:Nat->aj) (wo:List Int) (x:Int):List Int:=jf t wo (iM 7 x.toNat) x.toNat
def nB (N:Nat) (t:Nat->aj) (wo:List Int) (x:Int) (k:Nat):Bool:=((List.range N).all λi=>decide ((t i).un.length<=100))&&ri N&&decide (0<=x)&&decide (x<N)&&decide (iM 7 x.toNat<k)&&decide (wo.length<=274877906944)
def mI (k:Nat):Prop:=∀(N:Nat) (t:Nat->aj) (wo:List Int) (x:Int),cF N t->nB N t wo x k=true->
 ai prog 80 [.aJ false 99 N (aq t),.int .i64 x,.ro false .i64 wo] [] (.ro true .u8 (eC t wo x)) []
def abG (k:Nat) (ih:mI k):Entry prog:=.val 80 _ func80 (by decide) rfl true 0 (λvs=>match vs with
 | [.aJ false 99 N g,.int .i64 x,.ro false .i64 wo]=>some (.ro true .u8 (eC (ag g) wo x),[],bF N g&&decide (N<=71)&&nB N (ag g) wo x k)
 |_=>none) λvs v new e=>by
 split at e
 ·simp only [No,aae,aac,aab] at e
  obtain ⟨rfl,rfl,⟨h1,h2⟩,h3⟩:=e
  exact ai.conv (ih _ _ _ _ (cF.of h1 h2) h3) ⟨VE.tree h1,VE.refl _,VE.refl _,trivial⟩ trivial (VE.refl _) trivial
 ·cases e
def rdC (k:Nat) (ih:mI k) (l:List (Nat×Bool)):bO:=mk (P:=prog) [abG k ih,ku] [] (uT l)
theorem Qn (k:Nat) (ih:mI k) (l:List (Nat×Bool)):ak prog (rdC k ih l):=az _ aL.nil _ _
theorem abH (N:Nat) (t:Nat->aj) (x:Int) (wo:List Int) (k:Nat) (ih:mI k):(aG prog (rdC k ih []) 60 f36 [.aJ false 99 N (aq t),.int .i64 x,.ro false .i64 wo] []).map (λx=>(x.1,x.2.2))=some (.agg [.ints .u8 32 (bD (eC t wo x))],aa (aa true (aa true ((bF N λi=>af (aq t i))&&decide (N<=71)&&nB N (ag λi=>af (aq t i)) wo x k))) (aa true (decide ((eC (ag λi=>af (aq t i)) wo x).length<274877900000)))):=by kernel_rfl
theorem jg (xs:List Int):(bD xs).length=32:=by unfold bD;rw [fh];simp [DP]
theorem Gs {N:Nat} {t:Nat->aj} (hT:cF N t) (hu:((List.range N).all λi=>decide ((t i).un.length<=100))=true) (wo:List Int) (k x:Nat) (hx:x<N):(jf t wo k x).length<=300:=by
 have h1:=abB (aah.1 hu x (aan.2 hx))
 have hq:∀l,(bD l).length=32:=jg
 have hr:∀un:List Int,un.length<=100->(dx (t x) un).length<=199:=λun h=>by
  unfold dx dS;simp [hT.key x hx,hT.sign x hx,hT.par x hx];omega
 cases k with
 |zero=>
  unfold jf
  cases vf ((x/2:Nat):Int) wo with
  |true=>simp [dS]
  |false=>have:=hr _ h1;simp;omega
 |succ k=>
  unfold jf
  have:=hr (cM (t x).un wo) (abi (List.length_filter_le _ _) h1)
  simp [hq];omega
theorem AR {k:Nat} (ih:mI k) {N:Nat} {t:Nat->aj} {wo:List Int} {x:Int} (hT:cF N t) (h:nB N t wo x k=true):
  ai prog 36 [.aJ false 99 N (aq t),.int .i64 x,.ro false .i64 wo] [] (.agg [.ints .u8 32 (bD (eC t wo x))]) []:=by
 have hok:bF N (λi=>af (aq t i))=true:=bq hT
 have hr:nB N (ag λi=>af (aq t i)) wo x k=true:=h
 have hl:(eC (ag λi=>af (aq t i)) wo x).length<274877900000:=by
  unfold nB at h
  simp only [aac,aab] at h
  obtain ⟨⟨⟨⟨⟨hu,ht⟩,h0⟩,hx⟩,_⟩,_⟩:=h
  obtain ⟨n,hn,hN⟩:=ko ht
  have:=Gs hT hu wo (iM 7 x.toNat) x.toNat (by omega)
  show (jf t wo (iM 7 x.toNat) x.toNat).length<_
  omega
 exact aI (Qn k ih []) 60 func36 (abH N t x wo k ih) (by rw [hok,Me hT.le,hr,Me hl];rfl) rfl
def abI (k:Nat) (ih:mI k):Entry prog:=.val 36 _ func36 (by decide) rfl true 0 (λvs=>match vs with
 | [.aJ false 99 N g,.int .i64 x,.ro false .i64 wo]=>some (.agg [.ints .u8 32 (bD (eC (ag g) wo x))],[],bF N g&&decide (N<=71)&&nB N (ag g) wo x k)
 |_=>none) λvs v new e=>by
 split at e
 ·simp only [No,aae,aac,aab] at e
  obtain ⟨rfl,rfl,⟨h1,h2⟩,h3⟩:=e
  exact ai.conv (AR ih (cF.of h1 h2) h3) ⟨VE.tree h1,VE.refl _,VE.refl _,trivial⟩ trivial (VE.refl _) trivial
 ·cases e
def V8 (l:List (Nat×Bool)):bO:=mk (P:=prog) [Qo,DO] [] (uT l)
theorem KL (l:List (Nat×Bool)):ak prog (V8 l):=az _ aL.nil _ _
def rJ (l:List (Nat×Bool)):bO:=mk (P:=prog) [Qo,y5] [] (uT l)
theorem m6 (l:List (Nat×Bool)):ak prog (rJ l):=az _ aL.nil _ _
def KM (k:Nat) (ih:mI k) (l:List (Nat×Bool)):bO:=mk (P:=prog) [jh,abI k ih,y5] [] (uT l)
theorem KN (k:Nat) (ih:mI k) (l:List (Nat×Bool)):ak prog (KM k ih l):=az _ aL.nil _ _
def AS:Code:=aP f80
abbrev tP (n:aj) (v:SV):List Blk:=[.b [.bool n.used,.int .i64 n.name,.ints .u8 32 n.key,.ints .u8 32 n.sign,.ints .u8 32 n.par,v]]
def rtT (N:Nat) (t:Nat->aj) (x:Int) (wo:List Int) (v:SV) (i:Int):List (Option SV):=slotsOf 81 [(0,.aJ false 99 N (aq t)),(1,.int .i64 x),(2,.ro false .i64 wo),(7,.ptr 0 0 0),(8,v),(9,.int .i64 i)]
abbrev Qp (m:Nat):SV:=.sl 1 0 0 1 m m false true
def uN (N:Nat) (t:Nat->aj) (x:Int) (wo:List Int) (n:aj) (m:Nat) (ys:List Int) (i:Int):St:=⟨rtT N t x wo (Qp m) i,tP n (.ro false .i64 n.un)++[.b [.ints .i64 m ys]],true⟩
def DQ (N:Nat) (t:Nat->aj) (x:Int) (wo:List Int):List (Option SV):=slotsOf 81 [(0,.aJ false 99 N (aq t)),(1,.int .i64 x),(2,.ro false .i64 wo),(7,.ptr 0 0 0)]
theorem abK (N:Nat) (t:Nat->aj) (x:Int) (wo:List Int):(aG prog (V8 [(21,true),(25,true)]) 60 f80 [.aJ false 99 N (aq t),.int .i64 x,.ro false .i64 wo] [])=some (.sl 1 0 0 1 101 101 false true,tP ⟨false,0,cH,cH,cH,[]⟩ (.nl (.slice none 0 0))++[.b [.ints .u8 101 ([1,u8.wrap (i64.wrap (x.tdiv 2))]++dS false 0 cH cH cH [])]],aa (aa (aa (aa (aa (aa true (aX x N)) (true&&(decide (x.toNat<N)&&true))) (x.tmod 2==0)) (aa true (decide (wo.length<=274877906944)))) (vf (i64.wrap (x.tdiv 2)) wo)) (aa (aa (aa true (decide ((((List.replicate 2 0).set 0 1).set (0+1+0) (u8.wrap (i64.wrap (x.tdiv 2)))).length=2)&&true)) (decide ((((List.replicate 2 0).set 0 1).set (0+1+0) (u8.wrap (i64.wrap (x.tdiv 2)))).length=2))) ((0+1).beq 1))):=by kernel_rfl
theorem abL (N:Nat) (t:Nat->aj) (x:Int) (wo:List Int):(aG prog (rJ [(21,true),(25,false)]) 60 f80 [.aJ false 99 N (aq t),.int .i64 x,.ro false .i64 wo] [])=some (.sl 1 0 0 1 (2+(dx (t x.toNat) (t x.toNat).un).length) (2+(dx (t x.toNat) (t x.toNat).un).length) false true,tP (t x.toNat) (.ro false .i64 (t x.toNat).un)++[.b [.ints .u8 (2+(dx (t x.toNat) (t x.toNat).un).length) ([1,u8.wrap (i64.wrap (x.tdiv 2))]++dx (t x.toNat) (t x.toNat).un)]],aa (aa (aa (aa (aa (aa (aa true (aX x N)) (true&&(decide (x.toNat<N)&&true))) (x.tmod 2==0)) (aa true (decide (wo.length<=274877906944)))) !vf (i64.wrap (x.tdiv 2)) wo) (aa true (decide ((t x.toNat).key.length=32)&&decide ((t x.toNat).sign.length=32)&&decide ((t x.toNat).par.length=32)&&decide ((t x.toNat).un.length<=100)))) (aa (aa (aa (aa true (decide ((((List.replicate 2 0).set 0 1).set (0+1+0) (u8.wrap (i64.wrap (x.tdiv 2)))).length=2)&&true)) (decide ((((List.replicate 2 0).set 0 1).set (0+1+0) (u8.wrap (i64.wrap (x.tdiv 2)))).length=2))) ((0+1).beq 1)) (decide (2+(dS (t x.toNat).used (t x.toNat).name (t x.toNat).key (t x.toNat).sign (t x.toNat).par (t x.toNat).un).length<=2^38)))):=by kernel_rfl
theorem abM (N:Nat) (t:Nat->aj) (x:Int) (wo:List Int):aA (ah [0,1,2,7,8,9] 1 ((aE prog (rJ [(21,false)]) 60 0 6 (atoms AS) ⟨aD f80.ntmps [.aJ false 99 N (aq t),.int .i64 x,.ro false .i64 wo],[],true⟩).map λs=>(Exit.normal,s)))=some (.normal,rtT N t x wo (.nl (.slice none 0 0)) 0,tP (t x.toNat) (.ro false .i64 (t x.toNat).un)):=by kernel_rfl
theorem V9 (N:Nat) (t:Nat->aj) (x:Int) (wo:List Int):aZ (ah [0,1,2,7,8,9] 1 ((aE prog (rJ [(21,false)]) 60 0 6 (atoms AS) ⟨aD f80.ntmps [.aJ false 99 N (aq t),.int .i64 x,.ro false .i64 wo],[],true⟩).map λs=>(Exit.normal,s)))=(aa (aa (aa true (aX x N)) (true&&(decide (x.toNat<N)&&true))) !x.tmod 2==0):=by kernel_rfl
theorem Wa (N:Nat) (t:Nat->aj) (x:Int) (wo:List Int) (n:aj) (m:Nat) (ys:List Int) (i:Int):aA (ah [0,1,2,7,8,9] 2 (exec prog (rJ [(38,true),(48,true)]) 60 0 (inner (inner (au 6 AS))) (uN N t x wo n m ys i)))=some (.normal,(uN N t x wo n (m+1) (ys++[n.un.getD i.toNat 0]) (i64.wrap (i+1))).t,(uN N t x wo n (m+1) (ys++[n.un.getD i.toNat 0]) (i64.wrap (i+1))).h):=by kernel_rfl
theorem Qq (N:Nat) (t:Nat->aj) (x:Int) (wo:List Int) (n:aj) (m:Nat) (ys:List Int) (i:Int):aZ (ah [0,1,2,7,8,9] 2 (exec prog (rJ [(38,true),(48,true)]) 60 0 (inner (inner (au 6 AS))) (uN N t x wo n m ys i)))=(aa (aa (aa (aa (aa (aa (aa (aa true (decide (i<((n.un.length:Nat):Int)))) (aX i n.un.length)) (decide (i.toNat<n.un.length))) (aa true (decide (wo.length<=274877906944)))) !vf (n.un.getD i.toNat 0) wo) (aX i n.un.length)) (decide (i.toNat<n.un.length))) (aa (aa (aa true (decide (ys.length=m)&&(decide (m<=m)&&true))) (decide (ys.length=m))) (decide (m+1<=2^38)))):=by kernel_rfl
theorem Wb (N:Nat) (t:Nat->aj) (x:Int) (wo:List Int) (n:aj) (m:Nat) (ys:List Int) (i:Int):aA (ah [0,1,2,7,8,9] 2 (exec prog (rJ [(38,true),(48,false)]) 60 0 (inner (inner (au 6 AS))) (uN N t x wo n m ys i)))=some (.normal,(uN N t x wo n m ys (i64.wrap (i+1))).t,(uN N t x wo n m ys (i64.wrap (i+1))).h):=by kernel_rfl
theorem Qr (N:Nat) (t:Nat->aj) (x:Int) (wo:List Int) (n:aj) (m:Nat) (ys:List Int) (i:Int):aZ (ah [0,1,2,7,8,9] 2 (exec prog (rJ [(38,true),(48,false)]) 60 0 (inner (inner (au 6 AS))) (uN N t x wo n m ys i)))=(aa (aa (aa (aa (aa true (decide (i<((n.un.length:Nat):Int)))) (aX i n.un.length)) (decide (i.toNat<n.un.length))) (aa true (decide (wo.length<=274877906944)))) !!vf (n.un.getD i.toNat 0) wo):=by kernel_rfl
theorem abN (N:Nat) (t:Nat->aj) (x:Int) (wo:List Int) (n:aj) (m:Nat) (ys:List Int) (i:Int):aA (ah [0,1,2,7,8,9] 2 (exec prog (rJ [(38,false)]) 60 0 (inner (inner (au 6 AS))) (uN N t x wo n m ys i)))=some (.exit 0,(uN N t x wo n m ys i).t,(uN N t x wo n m ys i).h):=by kernel_rfl
theorem Wc (N:Nat) (t:Nat->aj) (x:Int) (wo:List Int) (n:aj) (m:Nat) (ys:List Int) (i:Int):aZ (ah [0,1,2,7,8,9] 2 (exec prog (rJ [(38,false)]) 60 0 (inner (inner (au 6 AS))) (uN N t x wo n m ys i)))=(aa true !decide (i<((n.un.length:Nat):Int))):=by kernel_rfl
theorem abO (N:Nat) (t:Nat->aj) (x:Int) (wo:List Int) (n:aj) (m:Nat) (ys:List Int) (i:Int):aA (ah [0,1,2,7] 2 (exec prog (rJ []) 60 0 (au 7 AS) (uN N t x wo n m ys i)))=some (.normal,DQ N t x wo,tP n (Qp m)++[.b [.ints .i64 m ys]]):=by kernel_rfl
theorem Wd (N:Nat) (t:Nat->aj) (x:Int) (wo:List Int) (n:aj) (m:Nat) (ys:List Int) (i:Int):aZ (ah [0,1,2,7] 2 (exec prog (rJ []) 60 0 (au 7 AS) (uN N t x wo n m ys i)))=(true):=by kernel_rfl
theorem abP (N:Nat) (t:Nat->aj) (x:Int) (wo:List Int) (n:aj) (un:List Int) (k:Nat) (ih:mI k):aA (ah [6] 4 (cn prog (KM k ih [(78,true),(80,true)]) 60 0 ((atoms AS).drop 8) ⟨DQ N t x wo,tP n (.ro false .i64 un),true⟩))=some (.ret,slotsOf 81 [(6,.sl 3 0 0 1 (1+(dx n un).length+32+32) (1+(dx n un).length+32+32) false true)],tP n (.ro false .i64 un)++[.b [.ints .u8 32 (bD (eC t wo (aN x)))],.b [.ints .u8 32 (bD (eC t wo (aH x)))],.b [.ints .u8 (1+(dx n un).length+32+32) ((([2]++dx n un)++bD (eC t wo (aN x)))++bD (eC t wo (aH x)))]]):=by kernel_rfl
theorem We (N:Nat) (t:Nat->aj) (x:Int) (wo:List Int) (n:aj) (un:List Int) (k:Nat) (ih:mI k):aZ (ah [6] 4 (cn prog (KM k ih [(78,true),(80,true)]) 60 0 ((atoms AS).drop 8) ⟨DQ N t x wo,tP n (.ro false .i64 un),true⟩))=(aa (aa (aa (aa (aa (aa (aa true (aa true (decide (0<=x)&&decide (x<64)))) (aa true ((bF N λi=>af (aq t i))&&decide (N<=71)&&nB N (ag λi=>af (aq t i)) wo (aN x) k))) (aa true ((bF N λi=>af (aq t i))&&decide (N<=71)&&nB N (ag λi=>af (aq t i)) wo (aH x) k))) (aa true (decide (n.key.length=32)&&decide (n.sign.length=32)&&decide (n.par.length=32)&&decide (un.length<=100)))) (aa true (decide (1+(dS n.used n.name n.key n.sign n.par un).length<=2^38)))) (aa (aa (aa (decide ((bD (eC (ag λi=>af (aq t i)) wo (aN x))).length=32)&&true) (decide (((List.replicate 1 0).set 0 2++dS n.used n.name n.key n.sign n.par un).length=1+(dS n.used n.name n.key n.sign n.par un).length)&&(decide (1+(dS n.used n.name n.key n.sign n.par un).length<=1+(dS n.used n.name n.key n.sign n.par un).length)&&true))) (decide (((List.replicate 1 0).set 0 2++dS n.used n.name n.key n.sign n.par un).length=1+(dS n.used n.name n.key n.sign n.par un).length))) (decide ((1+(dS n.used n.name n.key n.sign n.par un).length+32)<=2^38)))) (aa (aa (aa (decide ((bD (eC (ag λi=>af (aq t i)) wo (aH x))).length=32)&&true) (decide (((List.replicate 1 0).set 0 2++dS n.used n.name n.key n.sign n.par un++bD (eC (ag λi=>af (aq t i)) wo (aN x))).length=1+(dS n.used n.name n.key n.sign n.par un).length+32)&&(decide ((1+(dS n.used n.name n.key n.sign n.par un).length+32)<=1+(dS n.used n.name n.key n.sign n.par un).length+32)&&true))) (decide (((List.replicate 1 0).set 0 2++dS n.used n.name n.key n.sign n.par un++bD (eC (ag λi=>af (aq t i)) wo (aN x))).length=1+(dS n.used n.name n.key n.sign n.par un).length+32))) (decide (((1+(dS n.used n.name n.key n.sign n.par un).length+32)+32)<=2^38)))):=by kernel_rfl
theorem abQ (N:Nat) (t:Nat->aj) (x:Int) (wo:List Int) (n:aj) (un:List Int) (m:Nat):St.fz 1 ⟨DQ N t x wo,tP n (Qp m)++[.b [.ints .i64 m un]],true⟩=some (⟨DQ N t x wo,tP n (.ro true .i64 un)++[.b []],true⟩,aa (decide (un.length=m)) (aa ((DQ N t x wo).all λo=>match o with|some v=>lW 1 m v|none=>true) (lQ 1 m (tP n (Qp m)++[.b [.ints .i64 m un]]) 0))):=by kernel_rfl
theorem Qs (N:Nat) (t:Nat->aj) (x:Int) (wo:List Int) (n:aj) (un:List Int):bE 0 ⟨DQ N t x wo,tP n (Qp un.length)++[.b [.ints .i64 un.length un]],true⟩ ⟨DQ N t x wo,tP n (.ro false .i64 un),true⟩:=by
 have e:=abQ N t x wo n un un.length
 have e2:lQ 1 un.length (tP n (Qp un.length)++[.b [.ints .i64 un.length un]]) 0=true:=by simp [lQ,xh,lW,lR,aC]
 have e3:((DQ N t x wo).all λo=>match o with|some v=>lW 1 un.length v|none=>true)=true:=by kernel_rfl
 rw [e2,e3,Me rfl] at e
 refine (bE.freeze (k:=0) (b:=1) (aap _) e).trans ?_
 refine (bE.dn (n:=1) (aap _) (s':=⟨DQ N t x wo,tP n (.ro true .i64 un),true⟩) (by kernel_rfl)).trans ?_
 exact bE.vc ⟨PE.last (ps:=[.bool n.used,.int .i64 n.name,.ints .u8 32 n.key,.ints .u8 32 n.sign,.ints .u8 32 n.par]) rfl rfl (VE.AP true .i64 un),trivial⟩
theorem AT {un wo:List Int} {j:Nat} (h:j<un.length):cM (un.take (j+1)) wo=cM (un.take j) wo++bif vf (un.getD j 0) wo then [] else [un.getD j 0]:=by
 unfold cM
 rw [List.take_add_one,List.filter_append,aai h,Option.toList_some,List.filter_cons,bY h]
 cases vf un[j] wo<;>rfl
section
variable {N:Nat} {t:Nat->aj} {wo:List Int}
theorem xl {k:Nat} (hn:((List.range N).all λi=>decide ((t i).un.length<=100))=true) (ht:ri N=true) (hw:wo.length<=274877906944) {y:Nat} (hy:y<N) (hk:iM 7 y<k):nB N t wo (y:Int) k=true:=by
 unfold nB
 rw [hn,ht,aaa,Me hk,Me (show (y:Int)<N by omega),Me (show (0:Int)<=y by omega),Me hw];rfl
theorem KO {x:Int} {n:aj} (hw:wo.length<=274877906944) (hu:n.un.length<=100):Tr prog none 0 (au 6 AS) (uN N t x wo n 0 [] 0) .normal (uN N t x wo n (cM n.un wo).length (cM n.un wo) n.un.length):=by
 have key:Tr prog none 0 (au 6 AS) (uN N t x wo n (cM (n.un.take 0) wo).length (cM (n.un.take 0) wo) ((0:Nat):Int)) .normal (uN N t x wo n (cM n.un wo).length (cM n.un wo) n.un.length):=by
  refine Tr.loop 0 (by kernel_rfl) (λj=>uN N t x wo n (cM (n.un.take j) wo).length (cM (n.un.take j) wo) ((j:Nat):Int)) n.un.length (λj hj=>?_) ?_
  ·have hle:(cM (n.un.take j) wo).length<=100:=by
    have:=List.length_filter_le (λu=>!vf u wo) (n.un.take j)
    rw [aaU] at this
    unfold cM;omega
   have hr:=AT (wo:=wo) hj
   generalize cM (n.un.take j) wo=ys at hle hr ⊢
   rw [hr]
   cases hb:vf (n.un.getD j 0) wo with
   |true=>
    rw [_root_.cond_true,aaz]
    have e:=Wb N t x wo n ys.length ys j
    rw [cq (by omega)] at e
    exact Tr.aR (m6 [(38,true),(48,false)]) 60 _ 2 (aap _) (s':=uN N t x wo n ys.length ys ((j+1:Nat):Int)) _ e (Qr N t x wo n _ _ _) (by rw [fo hj,bf hj,aaa,Me hj,Me hw,hb];rfl)
   |false=>
    rw [_root_.cond_false,aar]
    have e:=Wa N t x wo n ys.length ys j
    rw [cq (by omega),aaa] at e
    exact Tr.aR (m6 [(38,true),(48,true)]) 60 _ 2 (aap _) (s':=uN N t x wo n (ys.length+1) (ys++[n.un.getD j 0]) ((j+1:Nat):Int)) _ e (Qq N t x wo n _ _ _) (by rw [fo hj,bf hj,aaa,Me hj,Me hw,hb,Me (Eq.refl ys.length),Me (aaf ys.length),Me (show ys.length+1<=2^38 by omega)];rfl)
  ·have e:=abN N t x wo n (cM n.un wo).length (cM n.un wo) n.un.length
   rw [adA]
   exact Tr.aR (m6 [(38,false)]) 60 _ 2 (aap _) _ e (Wc N t x wo n _ _ _) (by rw [fA (aaf _)];rfl)
 exact key
theorem y7:∀k,mI k:=by
 intro k
 induction k with
 |zero=>intro N t wo x hT h;simp [nB] at h
 |succ k ih=>
  intro N t wo x hT h
  unfold nB at h
  simp only [aac,aab] at h
  obtain ⟨⟨⟨⟨⟨hu,ht⟩,h0⟩,hx⟩,hk⟩,hw⟩:=h
  obtain ⟨y,rfl⟩:=aaB h0
  rw [aaa] at hk
  have hx:y<N:=by omega
  obtain ⟨n,hn,hN⟩:=ko ht
  have hs:=bu hn
  have hin:aX (y:Int) N=true:=bf hx
  have hun:=abB (aah.1 hu y (aan.2 hx))
  obtain ⟨f1,f2⟩:=Cb (x:=y) (by omega)
  have lk:=hT.key y hx
  have lg:=hT.sign y hx
  have lp:=hT.par y hx
  have hRl:∀un:List Int,un.length<=100->(dx (t y) un).length<=199:=λun h=>by
   unfold dx dS;simp [lk,lg,lp];omega
  cases hl:iM 7 y with
  |zero=>
   have hpar:(((y:Nat):Int).tmod 2==0)=true:=by
    rw [AU]
    unfold iM at hl
    split at hl
    ·omega
    ·rename_i hq;have:y%2≠1:=λq=>hq q;have:=Nat.mod_two_eq_zero_or_one y;simp;omega
   have hV:eC t wo (y:Int)=jf t wo 0 y:=by unfold eC;rw [aaa,hl]
   rw [hV,jf]
   cases hb:vf ((y/2:Nat):Int) wo with
   |true=>
    have e:=abK N t y wo
    rw [f2,f1,hb,hin,aaa,Me hx,hpar,Me hw] at e
    rw [_root_.cond_true]
    have hlen:([1,((y/2:Nat):Int)]++dS false 0 cH cH cH []).length=101:=by simp [dS]
    generalize [1,((y/2:Nat):Int)]++dS false 0 cH cH cH []=L at e hlen
    refine ai.jG (ex:=false) (wh:=true) (N:=101) (ai.yN (v:=.sl 1 0 0 1 101 101 false true) (h1:=tP ⟨false,0,cH,cH,cH,[]⟩ (.nl (.slice none 0 0))++[.b [.ints .u8 101 L]]) [1] ?_ rfl) hlen
    exact ai.bg (KL [(21,true),(25,true)]) func80 (n:=60) e
   |false=>
    have e:=abL N t y wo
    have hB:=hRl _ hun
    rw [f2,f1,hb,hin,aaa,Me hx,hpar,Me hw,Me lk,Me lg,Me lp,Me hun,show (dS (t y).used (t y).name (t y).key (t y).sign (t y).par (t y).un)=dx (t y) (t y).un from rfl] at e
    rw [_root_.cond_false]
    generalize dx (t y) (t y).un=W at e hB
    rw [Me (show 2+W.length<=2^38 by omega)] at e
    have hlen:([1,((y/2:Nat):Int)]++W).length=2+W.length:=by simp;omega
    generalize [1,((y/2:Nat):Int)]++W=L at e hlen
    refine ai.jG (ex:=false) (wh:=true) (N:=2+W.length) (ai.yN (v:=.sl 1 0 0 1 (2+W.length) (2+W.length) false true) (h1:=tP (t y) (.ro false .i64 (t y).un)++[.b [.ints .u8 (2+W.length) L]]) [1] ?_ rfl) hlen
    exact ai.bg (m6 [(21,true),(25,false)]) func80 (n:=60) e
  |succ j=>
   have hpar:(((y:Nat):Int).tmod 2==0)=false:=by
    rw [AU]
    unfold iM at hl
    split at hl
    ·rename_i hq;simp [hq]
    ·omega
   obtain ⟨h1,h2,h3,h4,h5,h6,h7⟩:=je hn (hN▸hx) hl
   have hV:eC t wo (y:Int)=(([2]++dx (t y) (cM (t y).un wo))++bD (eC t wo ((y-2^j:Nat):Int)))++bD (eC t wo ((y+2^j:Nat):Int)):=by
    unfold eC;rw [aaa,aaa,aaa,hl,h5,h6,jf]
   have hok:bF N (λi=>af (aq t i))=true:=bq hT
   have r1:nB N (ag λi=>af (aq t i)) wo ((y-2^j:Nat):Int) k=true:=xl (t:=t) hu ht hw (by omega) (by omega)
   have r2:nB N (ag λi=>af (aq t i)) wo ((y+2^j:Nat):Int) k=true:=xl (t:=t) hu ht hw (by omega) (by omega)
   have hkl:(cM (t y).un wo).length<=100:=abi (List.length_filter_le _ _) hun
   have hB:=hRl _ hkl
   have eh:=abM N t y wo
   have eh':=V9 N t y wo
   rw [aaa] at eh
   have ef:=abP N t (y:Int) wo (t y) (cM (t y).un wo) k ih
   have ef':=We N t (y:Int) wo (t y) (cM (t y).un wo) k ih
   rw [h1,h2] at ef ef'
   rw [hV]
   have q1:=jg (eC t wo ((y-2^j:Nat):Int))
   have q2:=jg (eC t wo ((y+2^j:Nat):Int))
   have hlen:((([2]++dx (t y) (cM (t y).un wo))++bD (eC t wo ((y-2^j:Nat):Int)))++bD (eC t wo ((y+2^j:Nat):Int))).length=1+(dx (t y) (cM (t y).un wo)).length+32+32:=by simp only [aar,adY,List.length_nil,q1,q2]
   generalize hL:(([2]++dx (t y) (cM (t y).un wo))++bD (eC t wo ((y-2^j:Nat):Int)))++bD (eC t wo ((y+2^j:Nat):Int))=L at ef hlen ⊢
   have cA:aZ (ah [6] 4 (cn prog (KM k ih [(78,true),(80,true)]) 60 0 ((atoms AS).drop 8) ⟨DQ N t y wo,tP (t y) (.ro false .i64 (cM (t y).un wo)),true⟩))=true:=by
    refine ef'.trans ?_
    have q1':(bD (eC (ag λi=>af (aq t i)) wo ((y-2^j:Nat):Int))).length=32:=q1
    have q2':(bD (eC (ag λi=>af (aq t i)) wo ((y+2^j:Nat):Int))).length=32:=q2
    rw [hok,r1,r2,Me hT.le,q1',q2']
    unfold dx at hB
    have q3:=jg (eC (ag λi=>af (aq t i)) wo ((y-2^j:Nat):Int))
    generalize bD (eC (ag λi=>af (aq t i)) wo ((y-2^j:Nat):Int))=A at q3 ⊢
    generalize dS (t y).used (t y).name (t y).key (t y).sign (t y).par (cM (t y).un wo)=W at hB ⊢
    simp only [aC,aac,aab,aar,q3,lk,lg,lp]
    simp
    omega
   generalize 1+(dx (t y) (cM (t y).un wo)).length+32+32=M at ef hlen
   refine ai.jG (ex:=false) (wh:=true) (N:=M) (ai.yN (v:=.sl 3 0 0 1 M M false true) (h1:=tP (t y) (.ro false .i64 (cM (t y).un wo))++[.b [.ints .u8 32 (bD (eC t wo ((y-2^j:Nat):Int)))],.b [.ints .u8 32 (bD (eC t wo ((y+2^j:Nat):Int)))],.b [.ints .u8 M L]]) [3] ?_ rfl) hlen
   refine ai.mk (vs:=[.sl 3 0 0 1 M M false true]) func80 rfl (x:=.ret) (s:=⟨slotsOf 81 [(6,.sl 3 0 0 1 M M false true)],tP (t y) (.ro false .i64 (cM (t y).un wo))++[.b [.ints .u8 32 (bD (eC t wo ((y-2^j:Nat):Int)))],.b [.ints .u8 32 (bD (eC t wo ((y+2^j:Nat):Int)))],.b [.ints .u8 M L]],true⟩) ?_ (.inl rfl) (by kernel_rfl)
   refine aV.bk (m6 [(21,false)]) 60 6 _ 1 (aap _) (s1:=⟨rtT N t y wo (.nl (.slice none 0 0)) 0,tP (t y) (.ro false .i64 (t y).un),true⟩) _ eh eh' ?_ (by decide) rfl ?_
   ·rw [hin,aaa,Me hx,hpar];rfl
   refine aV.pre (s1:=uN N t y wo (t y) 0 [] 0) ?_ ((bE.mF 8 (by kernel_rfl) .i64 false true).trans (bE.same (by kernel_rfl) rfl)) (by intro q;have:=adX List.length q;revert this;decide)
   refine aV.item 6 (by decide) (KO hw hun) ?_
   refine aV.item 7 (by decide) (s1:=⟨DQ N t y wo,tP (t y) (.ro false .i64 (cM (t y).un wo)),true⟩) (Tr.post (Tr.aR (m6 []) 60 _ 2 (aap _) (s':=⟨DQ N t y wo,tP (t y) (Qp (cM (t y).un wo).length)++[.b [.ints .i64 (cM (t y).un wo).length (cM (t y).un wo)]],true⟩) _ (abO N t y wo (t y) _ _ _) (Wd N t y wo (t y) _ _ _) rfl) (Qs N t y wo (t y) _)) ?_
   exact aV.og (KN k ih [(78,true),(80,true)]) 60 _ 4 (aap _) _ ef cA rfl (by intro q;have:=adX List.length q;revert this;decide)
end
end Go.Proofs.YthlnlcijnoadcaaGreatDoor.Mk
end
