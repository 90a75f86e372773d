/- This file proves the contract of tree's upper. Conditions: a tree of 32 leaves at most. -/
import Derived.Test.YthlnlcijnoadcaaGreatDoorGTrG
noncomputable section
open Go.Proofs.Tryz
open Go.IntKind (i64 u8 u64 u32)
set_option linter.all false
set_option maxRecDepth 100000
namespace Go.Proofs.YthlnlcijnoadcaaGreatDoor.Tr
open Go Go.Sy
def lN:List SV->aj
 | [.bool u,.int .i64 n,.ints .u8 32 k,.ints .u8 32 s,.ints .u8 32 p,.ro _ .i64 un]=>⟨u,n,k,s,p,un⟩
 |_=>default
def ag (g:Nat->List SV):Nat->aj:=λi=>lN (g i)
theorem ov (t:Nat->aj):ag (aq t)=t:=rfl
def II:List SV->Bool
 | [.bool _,.int .i64 _,.ints .u8 32 k,.ints .u8 32 s,.ints .u8 32 p,.ro false .i64 un]=>decide (un.length<=274877906944)&&decide (k.length=32)&&decide (s.length=32)&&decide (p.length=32)
 |_=>false
theorem v8 {l:List SV}:II l=true↔l=(lN l).cells/\(lN l).un.length<=274877906944/\(lN l).key.length=32/\(lN l).sign.length=32/\(lN l).par.length=32:=by
 constructor
 ·intro h
  unfold II at h
  split at h
  ·simp only [aac,aab] at h
   obtain ⟨⟨⟨h1,h2⟩,h3⟩,h4⟩:=h
   exact ⟨rfl,h1,h2,h3,h4⟩
  ·cases h
 ·rintro ⟨h0,h1,h2,h3,h4⟩
  rw [h0]
  show (decide _&&decide _&&decide _&&decide _)=true
  simp only [aac,aab]
  exact ⟨⟨⟨h1,h2⟩,h3⟩,h4⟩
def bF (N:Nat) (g:Nat->List SV):Bool:=(List.range N).all λi=>II (g i)
theorem m8 {N:Nat} {g:Nat->List SV}:bF N g=true↔∀i,i<N->g i=(lN (g i)).cells/\(lN (g i)).un.length<=274877906944/\(lN (g i)).key.length=32/\(lN (g i)).sign.length=32/\(lN (g i)).par.length=32:=by
 unfold bF
 rw [aah]
 exact ⟨λh i hi=>v8.1 (h i (aan.2 hi)),λh i hi=>v8.2 (h i (aan.1 hi))⟩
structure cF (N:Nat) (t:Nat->aj):Prop where
 le:N<=71
 un:∀i,i<N->(t i).un.length<=274877906944
 key:∀i,i<N->(t i).key.length=32
 sign:∀i,i<N->(t i).sign.length=32
 par:∀i,i<N->(t i).par.length=32
theorem bq {N:Nat} {t:Nat->aj} (h:cF N t):bF N (aq t)=true:=m8.2 λi hi=>⟨rfl,h.un i hi,h.key i hi,h.sign i hi,h.par i hi⟩
theorem cF.of {N:Nat} {g:Nat->List SV} (h:bF N g=true) (hN:N<=71):cF N (ag g):=by
 have h:=m8.1 h
 exact ⟨hN,λi hi=>(h i hi).2.1,λi hi=>(h i hi).2.2.1,λi hi=>(h i hi).2.2.2.1,λi hi=>(h i hi).2.2.2.2⟩
theorem VE.Gy {f:Bool} {z N:Nat} {g g':Nat->List SV} (h:∀i,i<N->g i=g' i):VE (.aJ f z N g) (.aJ f z N g'):=λe x hx=>by
 rcases hx with hx|⟨n,o,cap,c,t,fr,h1,h2,h3,h4,h5,h6⟩
 ·exact .inl hx
 ·exact .inr ⟨n,o,cap,c,t,fr,h1,h2,h3,λi hi=>by rw [<-h i hi];exact h4 i hi,h5,h6⟩
theorem VE.tree {N:Nat} {g:Nat->List SV} (h:bF N g=true):VE (.aJ false 99 N g) (.aJ false 99 N (aq (ag g))):=VE.Gy λi hi=>(m8.1 h i hi).1
def oB (N:Nat) (i n:Int):Bool:=sizes.any λm=>decide (n=m)&&decide (0<=i)&&decide (i<m)&&decide (N=2*m-1)
theorem Bt {N:Nat} {i n:Int} (h:oB N i n=true):∃m∈sizes,∃y:Nat,n=(m:Int)/\i=(y:Int)/\y<m/\N=2*m-1:=by
 obtain ⟨m,hm,h⟩:=aaT.1 h
 simp only [aac,aab] at h
 obtain ⟨⟨⟨rfl,h0⟩,h1⟩,h2⟩:=h
 obtain ⟨y,rfl⟩:=aaB h0
 exact ⟨m,hm,y,rfl,rfl,by omega,h2⟩
theorem v9 {N m y:Nat} (hm:m∈sizes) (hy:y<m) (hN:N=2*m-1):oB N y m=true:=aaT.2 ⟨m,hm,by simp;omega⟩
def zL:List SV->Option (SV×List Blk×Bool)
 | [.aJ false 99 N g,.int .i64 x,.int .i64 i,.int .i64 n]=>some (.bool (pQ (ag g) x i.toNat n.toNat),[],bF N g&&oB N i n)
 |_=>none
def IJ:Entry prog:=.val 163 _ func163 (by decide) rfl true 0 zL λvs v new e=>by
 unfold zL at e
 split at e
 ·simp only [No,aae,aac] at e
  obtain ⟨rfl,rfl,h1,h2⟩:=e
  obtain ⟨m,hm,y,rfl,rfl,hy,hN⟩:=Bt h2
  have h:=m8.1 h1
  exact ai.conv (Bs (t:=ag _) hm hy hN λk hk=>(h k hk).2.1) ⟨VE.tree h1,VE.refl _,VE.refl _,VE.refl _,trivial⟩ trivial (VE.refl _) trivial
 ·cases e
def uT (l:List (Nat×Bool)):Nat->Option Bool:=λi=>(l.find? λp=>p.1==i).map (·.2)
def oG (l:List (Nat×Bool)):bO:=mk (P:=prog) [MA,RS,IJ] [] (uT l)
theorem dN (l:List (Nat×Bool)):ak prog (oG l):=az _ aL.nil _ _
def Ac:Code:=aP f116
def xN (N:Nat) (t:Nat->aj) (x n b j:Int) (un:List Int):St:=⟨slotsOf 77 [(0,.aJ false 99 N (aq t)),(1,.int .i64 x),(2,.int .i64 n),(8,.int .i64 (er x)),(9,.int .i64 (g8 x)),(10,.int .i64 b),(39,.ro false .i64 un),(40,.int .i64 un.length),(41,.int .i64 j)],[],true⟩
def E4 (b:Bool):St:=⟨slotsOf 77 [(6,.bool b)],[],true⟩
theorem aed (N:Nat) (t:Nat->aj) (x n:Int):(aG prog (oG [(19,true),(24,true),(30,true)]) 60 f116 [.aJ false 99 N (aq t),.int .i64 x,.int .i64 n] []).map (λx=>(x.1,x.2.2))=some (.bool false,aa (aa (aa true (aX x N)) (true&&(decide (x.toNat<N)&&true))) ((t x.toNat).name != 0)):=by kernel_rfl
theorem aee (N:Nat) (t:Nat->aj) (x n:Int):(aG prog (oG [(19,false),(24,true),(30,true)]) 60 f116 [.aJ false 99 N (aq t),.int .i64 x,.int .i64 n] []).map (λx=>(x.1,x.2.2))=some (.bool false,aa (aa (aa (aa (aa true (aX x N)) (true&&(decide (x.toNat<N)&&true))) !(t x.toNat).name != 0) (decide ((t x.toNat).sign.length=32))) !decide ((t x.toNat).sign=List.replicate 32 0)):=by kernel_rfl
theorem aef (N:Nat) (t:Nat->aj) (x n:Int):(aG prog (oG [(19,false),(24,false),(30,true)]) 60 f116 [.aJ false 99 N (aq t),.int .i64 x,.int .i64 n] []).map (λx=>(x.1,x.2.2))=some (.bool false,aa (aa (aa (aa (aa (aa (aa true (aX x N)) (true&&(decide (x.toNat<N)&&true))) !(t x.toNat).name != 0) (decide ((t x.toNat).sign.length=32))) !!decide ((t x.toNat).sign=List.replicate 32 0)) (aa true (decide ((t x.toNat).un.length<=274877906944)))) !eS (t x.toNat).un):=by kernel_rfl
theorem MJ (N:Nat) (t:Nat->aj) (x n:Int):aA (ah [0,1,2,8,9,10,39,40,41] 0 ((aE prog (oG [(19,false),(24,false),(30,false)]) 60 0 7 (atoms Ac) ⟨aD f116.ntmps [.aJ false 99 N (aq t),.int .i64 x,.int .i64 n],[],true⟩).map λs=>(Exit.normal,s)))=some (.normal,(xN N t x n (-1) 0 (t x.toNat).un).t,[]):=by kernel_rfl
theorem IK (N:Nat) (t:Nat->aj) (x n:Int):aZ (ah [0,1,2,8,9,10,39,40,41] 0 ((aE prog (oG [(19,false),(24,false),(30,false)]) 60 0 7 (atoms Ac) ⟨aD f116.ntmps [.aJ false 99 N (aq t),.int .i64 x,.int .i64 n],[],true⟩).map λs=>(Exit.normal,s)))=(aa (aa (aa (aa (aa (aa (aa (aa true (aX x N)) (true&&(decide (x.toNat<N)&&true))) !(t x.toNat).name != 0) (decide ((t x.toNat).sign.length=32))) !!decide ((t x.toNat).sign=List.replicate 32 0)) (aa true (decide ((t x.toNat).un.length<=274877906944)))) !!eS (t x.toNat).un) (aa true (aQ x n))):=by kernel_rfl
theorem Sk (N:Nat) (t:Nat->aj) (x n b j:Int) (un:List Int):aA (ah [0,1,2,8,9,10,39,40,41] 0 (exec prog (oG [(42,true),(47,false),(51,false),(56,false),(65,false),(73,false)]) 60 0 (inner (inner (au 7 Ac))) (xN N t x n b j un)))=some (.normal,(xN N t x n (un.getD j.toNat 0) (i64.wrap (j+1)) un).t,[]):=by kernel_rfl
theorem MK (N:Nat) (t:Nat->aj) (x n b j:Int) (un:List Int):aZ (ah [0,1,2,8,9,10,39,40,41] 0 (exec prog (oG [(42,true),(47,false),(51,false),(56,false),(65,false),(73,false)]) 60 0 (inner (inner (au 7 Ac))) (xN N t x n b j un)))=(aa (aa (aa (aa (aa (aa (aa (aa (aa (aa (aa true (decide (j<((un.length:Nat):Int)))) (aX j un.length)) (decide (j.toNat<un.length))) !decide (un.getD j.toNat 0<=b)) !decide (un.getD j.toNat 0<er x)) !decide (un.getD j.toNat 0>g8 x)) (aX (i64.wrap (2*un.getD j.toNat 0)) N)) (true&&(decide ((i64.wrap (2*un.getD j.toNat 0)).toNat<N)&&true))) !!(t (i64.wrap (2*un.getD j.toNat 0)).toNat).1) (aa true ((bF N λi=>af (aq t i))&&oB N (un.getD j.toNat 0) n))) !!pQ (ag λi=>af (aq t i)) x (un.getD j.toNat 0).toNat n.toNat):=by kernel_rfl
theorem aeg (N:Nat) (t:Nat->aj) (x n b j:Int) (un:List Int):aA (ah [6] 0 (exec prog (oG [(42,true),(47,true),(51,false),(56,false),(65,false),(73,false)]) 60 0 (inner (inner (au 7 Ac))) (xN N t x n b j un)))=some (.ret,(E4 false).t,[]):=by kernel_rfl
theorem Yt (N:Nat) (t:Nat->aj) (x n b j:Int) (un:List Int):aZ (ah [6] 0 (exec prog (oG [(42,true),(47,true),(51,false),(56,false),(65,false),(73,false)]) 60 0 (inner (inner (au 7 Ac))) (xN N t x n b j un)))=(aa (aa (aa (aa true (decide (j<((un.length:Nat):Int)))) (aX j un.length)) (decide (j.toNat<un.length))) (decide (un.getD j.toNat 0<=b))):=by kernel_rfl
theorem aeh (N:Nat) (t:Nat->aj) (x n b j:Int) (un:List Int):aA (ah [6] 0 (exec prog (oG [(42,true),(47,false),(51,true),(56,false),(65,false),(73,false)]) 60 0 (inner (inner (au 7 Ac))) (xN N t x n b j un)))=some (.ret,(E4 false).t,[]):=by kernel_rfl
theorem Yu (N:Nat) (t:Nat->aj) (x n b j:Int) (un:List Int):aZ (ah [6] 0 (exec prog (oG [(42,true),(47,false),(51,true),(56,false),(65,false),(73,false)]) 60 0 (inner (inner (au 7 Ac))) (xN N t x n b j un)))=(aa (aa (aa (aa (aa true (decide (j<((un.length:Nat):Int)))) (aX j un.length)) (decide (j.toNat<un.length))) !decide (un.getD j.toNat 0<=b)) (decide (un.getD j.toNat 0<er x))):=by kernel_rfl
theorem aei (N:Nat) (t:Nat->aj) (x n b j:Int) (un:List Int):aA (ah [6] 0 (exec prog (oG [(42,true),(47,false),(51,false),(56,true),(65,false),(73,false)]) 60 0 (inner (inner (au 7 Ac))) (xN N t x n b j un)))=some (.ret,(E4 false).t,[]):=by kernel_rfl
theorem Yv (N:Nat) (t:Nat->aj) (x n b j:Int) (un:List Int):aZ (ah [6] 0 (exec prog (oG [(42,true),(47,false),(51,false),(56,true),(65,false),(73,false)]) 60 0 (inner (inner (au 7 Ac))) (xN N t x n b j un)))=(aa (aa (aa (aa (aa (aa true (decide (j<((un.length:Nat):Int)))) (aX j un.length)) (decide (j.toNat<un.length))) !decide (un.getD j.toNat 0<=b)) !decide (un.getD j.toNat 0<er x)) (decide (un.getD j.toNat 0>g8 x))):=by kernel_rfl
theorem aej (N:Nat) (t:Nat->aj) (x n b j:Int) (un:List Int):aA (ah [6] 0 (exec prog (oG [(42,true),(47,false),(51,false),(56,false),(65,true),(73,false)]) 60 0 (inner (inner (au 7 Ac))) (xN N t x n b j un)))=some (.ret,(E4 false).t,[]):=by kernel_rfl
theorem Yw (N:Nat) (t:Nat->aj) (x n b j:Int) (un:List Int):aZ (ah [6] 0 (exec prog (oG [(42,true),(47,false),(51,false),(56,false),(65,true),(73,false)]) 60 0 (inner (inner (au 7 Ac))) (xN N t x n b j un)))=(aa (aa (aa (aa (aa (aa (aa (aa (aa true (decide (j<((un.length:Nat):Int)))) (aX j un.length)) (decide (j.toNat<un.length))) !decide (un.getD j.toNat 0<=b)) !decide (un.getD j.toNat 0<er x)) !decide (un.getD j.toNat 0>g8 x)) (aX (i64.wrap (2*un.getD j.toNat 0)) N)) (true&&(decide ((i64.wrap (2*un.getD j.toNat 0)).toNat<N)&&true))) !(t (i64.wrap (2*un.getD j.toNat 0)).toNat).1):=by kernel_rfl
theorem aek (N:Nat) (t:Nat->aj) (x n b j:Int) (un:List Int):aA (ah [6] 0 (exec prog (oG [(42,true),(47,false),(51,false),(56,false),(65,false),(73,true)]) 60 0 (inner (inner (au 7 Ac))) (xN N t x n b j un)))=some (.ret,(E4 false).t,[]):=by kernel_rfl
theorem Yx (N:Nat) (t:Nat->aj) (x n b j:Int) (un:List Int):aZ (ah [6] 0 (exec prog (oG [(42,true),(47,false),(51,false),(56,false),(65,false),(73,true)]) 60 0 (inner (inner (au 7 Ac))) (xN N t x n b j un)))=(aa (aa (aa (aa (aa (aa (aa (aa (aa (aa (aa true (decide (j<((un.length:Nat):Int)))) (aX j un.length)) (decide (j.toNat<un.length))) !decide (un.getD j.toNat 0<=b)) !decide (un.getD j.toNat 0<er x)) !decide (un.getD j.toNat 0>g8 x)) (aX (i64.wrap (2*un.getD j.toNat 0)) N)) (true&&(decide ((i64.wrap (2*un.getD j.toNat 0)).toNat<N)&&true))) !!(t (i64.wrap (2*un.getD j.toNat 0)).toNat).1) (aa true ((bF N λi=>af (aq t i))&&oB N (un.getD j.toNat 0) n))) !pQ (ag λi=>af (aq t i)) x (un.getD j.toNat 0).toNat n.toNat):=by kernel_rfl
theorem Sl (N:Nat) (t:Nat->aj) (x n b j:Int) (un:List Int):aA (ah [] 0 (exec prog (oG [(42,false),(47,false),(51,false),(56,false),(65,false),(73,true)]) 60 0 (inner (inner (au 7 Ac))) (xN N t x n b j un)))=some (.exit 0,slotsOf 77 [],[]):=by kernel_rfl
theorem ML (N:Nat) (t:Nat->aj) (x n b j:Int) (un:List Int):aZ (ah [] 0 (exec prog (oG [(42,false),(47,false),(51,false),(56,false),(65,false),(73,true)]) 60 0 (inner (inner (au 7 Ac))) (xN N t x n b j un)))=(aa true !decide (j<((un.length:Nat):Int))):=by kernel_rfl
theorem EA:(sizes.all λn=>(List.range (2*n-1)).all λx=>decide (0<=er (x:Nat))&&decide (g8 (x:Nat)<n))=true:=by decide+kernel
theorem ux {x:Int} {n:Nat} (h:aQ x n=true):0<=er x/\g8 x<n:=by
 obtain ⟨m,hm,y,h1,rfl,h2⟩:=eR h
 have h:=aah.1 (aah.1 EA m hm) y (aan.2 h2)
 simp only [aac,aab] at h
 exact ⟨h.1,by omega⟩
def E5 (un:List Int):Nat->Int
 |0=>-1
 |k+1=>un.getD k 0
def A7 (t:Nat->aj) (x:Int) (n:Nat) (un:List Int) (j:Nat):Bool:=!decide (un.getD j 0<=(E5 un j))&&!decide (un.getD j 0<er x)&&!decide (un.getD j 0>g8 x)&&(t (2*un.getD j 0).toNat).used&&pQ t x (un.getD j 0).toNat n
def dZ (t:Nat->aj) (x:Int) (n:Nat):Bool:=!((t x.toNat).name != 0)&&decide ((t x.toNat).sign=List.replicate 32 0)&&eS (t x.toNat).un&&(List.range (t x.toNat).un.length).all (A7 t x n (t x.toNat).un)
section
variable {N:Nat} {t:Nat->aj} {x:Int} {n:Nat}
theorem Bu (hT:cF N t) (hn:n∈sizes) (hN:N=2*n-1) (hx:aQ x n=true) (h1:((t x.toNat).name != 0)=false) (h2:decide ((t x.toNat).sign=List.replicate 32 0)=true) (h3:eS (t x.toNat).un=true):
  ai prog 116 [.aJ false 99 N (aq t),.int .i64 x,.int .i64 n] [] (.bool ((List.range (t x.toNat).un.length).all (A7 t x n (t x.toNat).un))) []:=by
 obtain ⟨g1,g2⟩:=fX hx
 obtain ⟨b1,b2⟩:=ux hx
 have hs:=bu hn
 have hlt:x.toNat<N:=by omega
 have hlen:=hT.un _ hlt
 generalize hun:(t x.toNat).un=un at*
 have key:=ai.scan (P:=prog) (args:=[.aJ false 99 N (aq t),.int .i64 x,.int .i64 n]) (h:=[]) (h':=[]) func116 rfl 7 0 (λj:Nat=>xN N t x n (E5 un j) j un) (A7 t x n un) un.length
  (λy s' g=>aV.bk (dN [(19,false),(24,false),(30,false)]) 60 7 _ 0 (by simp) (s1:=xN N t x n (-1) (0:Nat) un) _ (by have:=MJ N t x n;rw [hun] at this;exact this) (IK N t x n)
   (by rw [mK g1 (by omega),Me hlt,h1,Me (hT.sign _ hlt),h2,hun,Me hlen,h3,hx];rfl) (by decide) rfl g) (by decide) (by kernel_rfl)
  (λj hj hb _=>?_) (λi=>E4 false) (λi=>[.bool false]) (λj hj hb _=>⟨?_,rfl,rfl⟩) (sE:=⟨slotsOf 77 [],[],true⟩) (uM:=E4 true) (vE:=[.bool true]) (xE:=.ret) (λ_=>?_) (λ_=>⟨?_,.inl rfl,rfl,rfl⟩)
 ·rw [bX (g:=SV.bool) (vF:=λ_:Nat=>false) (vE:=true)] at key
  have hv:bP (A7 t x n un) un.length (λ_=>false) true=(List.range un.length).all (A7 t x n un):=by
   unfold bP;rw [<-cY];cases b6 _ _<;>rfl
  rw [hv] at key;exact key
 ·unfold A7 at hb
  simp only [aac,aaY,ac7] at hb
  obtain ⟨⟨⟨⟨c1,c2⟩,c3⟩,c4⟩,c5⟩:=hb
  have e:=Sk N t x n (E5 un j) j un
  have e':=MK N t x n (E5 un j) j un
  rw [cq (by omega),aaa] at e
  refine Tr.aR (dN [(42,true),(47,false),(51,false),(56,false),(65,false),(73,false)]) 60 _ 0 (aaf _) (s':=xN N t x n (un.getD j 0) ((j+1:Nat):Int) un) _ e e' ?_
  rw [aaa,cg (by omega) (by omega),fo hj,bf hj,Me hj,aam c1,aam c2,aam c3,mK (by omega) (by omega),Me (show (2*un.getD j 0).toNat<N by omega),
   show (t (2*un.getD j 0).toNat).1=true from c4,show bF N (λi=>af (aq t i))=true from bq hT,aaa,show pQ (ag λi=>af (aq t i)) x (un.getD j 0).toNat n=true from c5]
  rw [show oB N (un.getD j 0) n=true from by
   have:=v9 (N:=N) (m:=n) (y:=(un.getD j 0).toNat) hn (by omega) hN
   rwa [Int.toNat_of_nonneg (by omega)] at this]
  rfl
 ·have hw:∀(h0:¬un.getD j 0<er x) (h1:¬un.getD j 0>g8 x),i64.wrap (2*un.getD j 0)=2*un.getD j 0:=λ_ _=>cg (by omega) (by omega)
  by_cases c1:un.getD j 0<=(E5 un j)
  ·exact Tr.aR (dN [(42,true),(47,true),(51,false),(56,false),(65,false),(73,false)]) 60 _ 0 (aaf _) (s':=E4 false) _ (aeg N t x n _ j un) (Yt N t x n _ j un) (by
    rw [aaa,fo hj,bf hj,Me hj,Me c1];rfl)
  ·by_cases c2:un.getD j 0<er x
   ·exact Tr.aR (dN [(42,true),(47,false),(51,true),(56,false),(65,false),(73,false)]) 60 _ 0 (aaf _) (s':=E4 false) _ (aeh N t x n _ j un) (Yu N t x n _ j un) (by
     rw [aaa,fo hj,bf hj,Me hj,aam c1,Me c2];rfl)
   ·by_cases c3:un.getD j 0>g8 x
    ·exact Tr.aR (dN [(42,true),(47,false),(51,false),(56,true),(65,false),(73,false)]) 60 _ 0 (aaf _) (s':=E4 false) _ (aei N t x n _ j un) (Yv N t x n _ j un) (by
      rw [aaa,fo hj,bf hj,Me hj,aam c1,aam c2,Me c3];rfl)
    ·cases c4:(t (2*un.getD j 0).toNat).used with
     |false=>
      exact Tr.aR (dN [(42,true),(47,false),(51,false),(56,false),(65,true),(73,false)]) 60 _ 0 (aaf _) (s':=E4 false) _ (aej N t x n _ j un) (Yw N t x n _ j un) (by
       rw [aaa,hw c2 c3,fo hj,bf hj,Me hj,aam c1,aam c2,aam c3,mK (by omega) (by omega),Me (show (2*un.getD j 0).toNat<N by omega),show (t (2*un.getD j 0).toNat).1=false from c4];rfl)
     |true=>
      unfold A7 at hb
      rw [aam c1,aam c2,aam c3,c4] at hb
      have c5:pQ t x (un.getD j 0).toNat n=false:=by simpa using hb
      refine Tr.aR (dN [(42,true),(47,false),(51,false),(56,false),(65,false),(73,true)]) 60 _ 0 (aaf _) (s':=E4 false) _ (aek N t x n _ j un) (Yx N t x n _ j un) ?_
      rw [aaa,hw c2 c3,fo hj,bf hj,Me hj,aam c1,aam c2,aam c3,mK (by omega) (by omega),Me (show (2*un.getD j 0).toNat<N by omega),show (t (2*un.getD j 0).toNat).1=true from c4,
       show bF N (λi=>af (aq t i))=true from bq hT,aaa,show pQ (ag λi=>af (aq t i)) x (un.getD j 0).toNat n=false from c5]
      rw [show oB N (un.getD j 0) n=true from by
       have:=v9 (N:=N) (m:=n) (y:=(un.getD j 0).toNat) hn (by omega) hN
       rwa [Int.toNat_of_nonneg (by omega)] at this]
      rfl
 ·exact Tr.aR (dN [(42,false),(47,false),(51,false),(56,false),(65,false),(73,true)]) 60 _ 0 (aaf _) (s':=⟨slotsOf 77 [],[],true⟩) _ (Sl N t x n _ _ un) (ML N t x n _ _ un) (by rw [fA (aaf _)];rfl)
 ·exact aV.rest (dN []) 60 (by kernel_rfl) rfl
theorem IL (hT:cF N t) (hn:n∈sizes) (hN:N=2*n-1) (hx:aQ x n=true):ai prog 116 [.aJ false 99 N (aq t),.int .i64 x,.int .i64 n] [] (.bool (dZ t x n)) []:=by
 obtain ⟨g1,g2⟩:=fX hx
 have hlt:x.toNat<N:=by omega
 have hb:aX x N=true:=mK g1 (by omega)
 unfold dZ
 cases h1:((t x.toNat).name != 0) with
 |true=>exact aI (dN [(19,true),(24,true),(30,true)]) 60 func116 (aed N t x n) (by rw [hb,Me hlt,h1];rfl) rfl
 |false=>
  cases h2:decide ((t x.toNat).sign=List.replicate 32 0) with
  |false=>exact aI (dN [(19,false),(24,true),(30,true)]) 60 func116 (aee N t x n) (by rw [hb,Me hlt,h1,h2,Me (hT.sign _ hlt)];rfl) rfl
  |true=>
   cases h3:eS (t x.toNat).un with
   |false=>exact aI (dN [(19,false),(24,false),(30,true)]) 60 func116 (aef N t x n) (by rw [hb,Me hlt,h1,h2,Me (hT.sign _ hlt),Me (hT.un _ hlt),h3];rfl) rfl
   |true=>exact Bu hT hn hN hx h1 h2 h3
end
end Go.Proofs.YthlnlcijnoadcaaGreatDoor.Tr
