/- This file proves the contracts of the reference's Above, In, used, Leaf. Conditions: trees of 32 leaves at most. -/
import Derived.Test.YthlnlcijnoadcaaGreatDoorGTsB
noncomputable section
open Go.Proofs.Tryz
open Go.IntKind (i64 u8 u64 u32)
set_option linter.all false
set_option maxRecDepth 100000
namespace Go.Proofs.YthlnlcijnoadcaaGreatDoor.Tr
open Go Go.Sy
def zl:Entry prog:=.val 113 _ func113 (by decide) rfl false 0 (λvs=>match vs with
 | [.int .i64 x,.int .i64 n]=>some (.int .i64 (eD x n),[],decide (0<=n)&&aQ x n)
 |_=>none) λvs v new e=>by
 split at e
 ·simp only [No,aae,aac,aab] at e
  obtain ⟨rfl,rfl,h1,h2⟩:=e
  obtain ⟨m,rfl⟩:=aaB h1
  exact Bz h2
 ·cases e
def M9 (l:List (Nat×Bool)):bO:=mk (P:=prog) [Jd true,zl] [] (uT l)
theorem uA (l:List (Nat×Bool)):ak prog (M9 l):=az _ aL.nil _ _
def Pb:Code:=aP f76
def Jg (x n p:Int):St:=⟨slotsOf 27 [(0,.int .i64 x),(2,.int .i64 n),(7,.int .i64 p)],[],true⟩
theorem Na (x y n:Int):aA (ah [0,2,7] 0 ((aE prog (M9 []) 60 0 4 (atoms Pb) ⟨aD f76.ntmps [.int .i64 x,.int .i64 y,.int .i64 n],[],true⟩).map λs=>(Exit.normal,s)))=some (.normal,(Jg x n y).t,[]):=by kernel_rfl
theorem Jh (x y n:Int):aZ (ah [0,2,7] 0 ((aE prog (M9 []) 60 0 4 (atoms Pb) ⟨aD f76.ntmps [.int .i64 x,.int .i64 y,.int .i64 n],[],true⟩).map λs=>(Exit.normal,s)))=(aa (aa true (aa true (mP n&&aQ x n==true))) (aa true (mP n&&aQ y n==true))):=by kernel_rfl
theorem YY (x n p:Int):aA (ah [0,2,7] 0 (exec prog (M9 [(20,true),(26,false)]) 60 0 (inner (inner (au 4 Pb))) (Jg x n p)))=some (.normal,(Jg x n (eD p n)).t,[]):=by kernel_rfl
theorem S4 (x n p:Int):aZ (ah [0,2,7] 0 (exec prog (M9 [(20,true),(26,false)]) 60 0 (inner (inner (au 4 Pb))) (Jg x n p)))=(aa (aa (aa true (decide (p>=0))) !p==x) (aa true (decide (0<=n)&&aQ p n))):=by kernel_rfl
theorem YZ (x n p:Int):aA (ah [6] 0 (exec prog (M9 [(20,true),(26,true)]) 60 0 (inner (inner (au 4 Pb))) (Jg x n p)))=some (.ret,(bS 27 6 true).t,[]):=by kernel_rfl
theorem S5 (x n p:Int):aZ (ah [6] 0 (exec prog (M9 [(20,true),(26,true)]) 60 0 (inner (inner (au 4 Pb))) (Jg x n p)))=(aa (aa true (decide (p>=0))) (p==x)):=by kernel_rfl
theorem S6 (x n p:Int):aA (ah [] 0 (exec prog (M9 [(20,false)]) 60 0 (inner (inner (au 4 Pb))) (Jg x n p)))=some (.exit 0,slotsOf 27 [],[]):=by kernel_rfl
theorem Nb (x n p:Int):aZ (ah [] 0 (exec prog (M9 [(20,false)]) 60 0 (inner (inner (au 4 Pb))) (Jg x n p)))=(aa true !decide (p>=0)):=by kernel_rfl
def zS:Code:=aP f75
def Ji (x:Int) (l:List Int) (i:Int):St:=⟨slotsOf 18 [(0,.int .i64 x),(1,.ro false .i64 l),(5,.int .i64 i)],[],true⟩
theorem Nc (x:Int) (l:List Int):aA (ah [0,1,5] 0 ((aE prog (mO []) 60 0 2 (atoms zS) ⟨aD f75.ntmps [.int .i64 x,.ro false .i64 l],[],true⟩).map λs=>(Exit.normal,s)))=some (.normal,(Ji x l 0).t,[]):=by kernel_rfl
theorem Jj (x:Int) (l:List Int):aZ (ah [0,1,5] 0 ((aE prog (mO []) 60 0 2 (atoms zS) ⟨aD f75.ntmps [.int .i64 x,.ro false .i64 l],[],true⟩).map λs=>(Exit.normal,s)))=(true):=by kernel_rfl
theorem Y0 (x:Int) (l:List Int) (i:Int):aA (ah [0,1,5] 0 (exec prog (mO [(9,true),(17,false)]) 60 0 (inner (inner (au 2 zS))) (Ji x l i)))=some (.normal,(Ji x l (i64.wrap (i+1))).t,[]):=by kernel_rfl
theorem S7 (x:Int) (l:List Int) (i:Int):aZ (ah [0,1,5] 0 (exec prog (mO [(9,true),(17,false)]) 60 0 (inner (inner (au 2 zS))) (Ji x l i)))=(aa (aa (aa (aa true (decide (i<((l.length:Nat):Int)))) (aX i l.length)) (decide (i.toNat<l.length))) !l.getD i.toNat 0==x):=by kernel_rfl
theorem Y1 (x:Int) (l:List Int) (i:Int):aA (ah [4] 0 (exec prog (mO [(9,true),(17,true)]) 60 0 (inner (inner (au 2 zS))) (Ji x l i)))=some (.ret,(bS 18 4 true).t,[]):=by kernel_rfl
theorem S8 (x:Int) (l:List Int) (i:Int):aZ (ah [4] 0 (exec prog (mO [(9,true),(17,true)]) 60 0 (inner (inner (au 2 zS))) (Ji x l i)))=(aa (aa (aa (aa true (decide (i<((l.length:Nat):Int)))) (aX i l.length)) (decide (i.toNat<l.length))) (l.getD i.toNat 0==x)):=by kernel_rfl
theorem S9 (x:Int) (l:List Int) (i:Int):aA (ah [] 0 (exec prog (mO [(9,false)]) 60 0 (inner (inner (au 2 zS))) (Ji x l i)))=some (.exit 0,slotsOf 18 [],[]):=by kernel_rfl
theorem Nd (x:Int) (l:List Int) (i:Int):aZ (ah [] 0 (exec prog (mO [(9,false)]) 60 0 (inner (inner (au 2 zS))) (Ji x l i)))=(aa true !decide (i<((l.length:Nat):Int))):=by kernel_rfl
def Pc:Code:=aP f57
def Jk (N:Nat) (t:Nat->aj) (x:Int):St:=⟨slotsOf 19 [(0,.aJ false 99 N (aq t)),(5,.int .i64 x)],[],true⟩
theorem Nf (N:Nat) (t:Nat->aj) (fr:Int):aA (ah [0,5] 0 ((aE prog (mO []) 60 0 2 (atoms Pc) ⟨aD f57.ntmps [.aJ false 99 N (aq t),.int .i64 fr],[],true⟩).map λs=>(Exit.normal,s)))=some (.normal,(Jk N t (i64.wrap (2*fr))).t,[]):=by kernel_rfl
theorem Jl (N:Nat) (t:Nat->aj) (fr:Int):aZ (ah [0,5] 0 ((aE prog (mO []) 60 0 2 (atoms Pc) ⟨aD f57.ntmps [.aJ false 99 N (aq t),.int .i64 fr],[],true⟩).map λs=>(Exit.normal,s)))=(true):=by kernel_rfl
theorem Y2 (N:Nat) (t:Nat->aj) (x:Int):aA (ah [0,5] 0 (exec prog (mO [(11,true),(18,false)]) 60 0 (inner (inner (au 2 Pc))) (Jk N t x)))=some (.normal,(Jk N t (i64.wrap (x+2))).t,[]):=by kernel_rfl
theorem Ta (N:Nat) (t:Nat->aj) (x:Int):aZ (ah [0,5] 0 (exec prog (mO [(11,true),(18,false)]) 60 0 (inner (inner (au 2 Pc))) (Jk N t x)))=(aa (aa (aa (aa true (decide (x<((N:Nat):Int)))) (aX x N)) (true&&(decide (x.toNat<N)&&true))) !(t x.toNat).1):=by kernel_rfl
theorem Y3 (N:Nat) (t:Nat->aj) (x:Int):aA (ah [4] 0 (exec prog (mO [(11,true),(18,true)]) 60 0 (inner (inner (au 2 Pc))) (Jk N t x)))=some (.ret,(bS 19 4 true).t,[]):=by kernel_rfl
theorem Tb (N:Nat) (t:Nat->aj) (x:Int):aZ (ah [4] 0 (exec prog (mO [(11,true),(18,true)]) 60 0 (inner (inner (au 2 Pc))) (Jk N t x)))=(aa (aa (aa (aa true (decide (x<((N:Nat):Int)))) (aX x N)) (true&&(decide (x.toNat<N)&&true))) (t x.toNat).1):=by kernel_rfl
theorem Tc (N:Nat) (t:Nat->aj) (x:Int):aA (ah [] 0 (exec prog (mO [(11,false)]) 60 0 (inner (inner (au 2 Pc))) (Jk N t x)))=some (.exit 0,slotsOf 19 [],[]):=by kernel_rfl
theorem Ng (N:Nat) (t:Nat->aj) (x:Int):aZ (ah [] 0 (exec prog (mO [(11,false)]) 60 0 (inner (inner (au 2 Pc))) (Jk N t x)))=(aa true !decide (x<((N:Nat):Int))):=by kernel_rfl
theorem aeA (a:aj):(aG prog (mO [(4,false)]) 60 f59 [.agg a.cells] []).map (λx=>(x.1,x.2.2))=some (.bool false,aa true !a.1):=by kernel_rfl
theorem aeB (a:aj):(aG prog (mO [(4,true),(8,false)]) 60 f59 [.agg a.cells] []).map (λx=>(x.1,x.2.2))=some (.bool false,aa (aa true a.1) !decide (a.name>=0)):=by kernel_rfl
theorem aeC (a:aj):(aG prog (mO [(4,true),(8,true),(13,false)]) 60 f59 [.agg a.cells] []).map (λx=>(x.1,x.2.2))=some (.bool false,aa (aa (aa true a.1) (decide (a.name>=0))) !decide (a.name<=255)):=by kernel_rfl
theorem aeD (a:aj):(aG prog (mO [(4,true),(8,true),(13,true)]) 60 f59 [.agg a.cells] []).map (λx=>(x.1,x.2.2))=some (.bool ((a.un.length:Int)==0),aa (aa (aa true a.1) (decide (a.name>=0))) (decide (a.name<=255))):=by kernel_rfl
def rU (n y:Int):Nat->Int
 |0=>y
 |j+1=>eD (rU n y j) n
def Jm (n:Nat) (y:Int):Nat:=((List.range 8).find? λj=>decide (rU n y j<0)).getD 8
theorem Nh:(sizes.all λn=>(List.range (2*n-1)).all λy=>decide (rU n ((y:Nat):Int) (Jm n ((y:Nat):Int))<0)&&(List.range (Jm n ((y:Nat):Int))).all λj=>aQ (rU n ((y:Nat):Int) j) n&&decide (rU n ((y:Nat):Int) j>=0))=true:=by decide+kernel
def gr (x y:Int) (n:Nat):Bool:=bP (λj=>!(rU n y j==x)) (Jm n y) (λ_=>true) false
theorem EJ {x y:Int} {n:Nat} (hx:aQ x n=true) (hy:aQ y n=true):ai prog 76 [.int .i64 x,.int .i64 y,.int .i64 ((n:Nat):Int)] [] (.bool (gr x y n)) []:=by
 obtain ⟨m,hm,y',h1,rfl,h2⟩:=eR hy
 obtain rfl:n=m:=by omega
 have hz:mP (n:Int)=true:=aaT.2 ⟨n,hm,Me rfl⟩
 have hd:=aah.1 (aah.1 Nh n hm) y' (aan.2 h2)
 obtain ⟨d1,d2⟩:=abS.1 hd
 have d3:∀j,j<Jm n ((y':Nat):Int)->aQ (rU n ((y':Nat):Int) j) n=true/\decide (rU n ((y':Nat):Int) j>=0)=true:=λj hj=>abS.1 (aah.1 d2 j (aan.2 hj))
 have key:=ai.scan (P:=prog) (args:=[.int .i64 x,.int .i64 ((y':Nat):Int),.int .i64 ((n:Nat):Int)]) (h:=[]) (h':=[]) func76 rfl 4 0 (λj:Nat=>Jg x n (rU n ((y':Nat):Int) j)) (λj=>!(rU n ((y':Nat):Int) j==x)) (Jm n ((y':Nat):Int))
  (λz s' g=>aV.bk (uA []) 60 4 _ 0 (by simp) (s1:=Jg x n y') _ (Na x y' n) (Jh x y' n) (by rw [hz,hx,hy];rfl) (by decide) rfl g) (by decide) (by kernel_rfl)
  (λj hj hb _=>?_) (λi=>bS 27 6 true) (λi=>[.bool true]) (λj hj hb _=>⟨?_,rfl,rfl⟩) (sE:=⟨slotsOf 27 [],[],true⟩) (uM:=bS 27 6 false) (vE:=[.bool false]) (xE:=.ret) (λ_=>?_) (λ_=>⟨?_,.inl rfl,rfl,rfl⟩)
 ·rw [bX (g:=SV.bool) (vF:=λ_:Nat=>true) (vE:=false)] at key
  exact key
 ·obtain ⟨q1,q2⟩:=d3 j hj
  exact Tr.aR (uA [(20,true),(26,false)]) 60 _ 0 (aaf _) (s':=Jg x n (rU n ((y':Nat):Int) (j+1))) _ (YY x n _) (S4 x n _) (by
   rw [q1,q2,hb,Me (show (0:Int)<=(n:Int) by omega)];rfl)
 ·obtain ⟨q1,q2⟩:=d3 j hj
  have hb':(rU n ((y':Nat):Int) j==x)=true:=by simpa using hb
  exact Tr.aR (uA [(20,true),(26,true)]) 60 _ 0 (aaf _) (s':=bS 27 6 true) _ (YZ x n _) (S5 x n _) (by rw [q2,hb'];rfl)
 ·have d4:=abB d1
  exact Tr.aR (uA [(20,false)]) 60 _ 0 (aaf _) (s':=⟨slotsOf 27 [],[],true⟩) _ (S6 x n _) (Nb x n _) (by rw [aam (by omega)];rfl)
 ·exact aV.rest (uA []) 60 (by kernel_rfl) rfl
def vf (x:Int) (l:List Int):Bool:=bP (λi=>!(l.getD i 0==x)) l.length (λ_=>true) false
theorem Td {x:Int} {l:List Int} (h:l.length<=274877906944):ai prog 75 [.int .i64 x,.ro false .i64 l] [] (.bool (vf x l)) []:=by
 have key:=ai.scan (P:=prog) (args:=[.int .i64 x,.ro false .i64 l]) (h:=[]) (h':=[]) func75 rfl 2 0 (λj:Nat=>Ji x l ((j:Nat):Int)) (λi=>!(l.getD i 0==x)) l.length
  (λz s' g=>aV.bk (cZ []) 60 2 _ 0 (by simp) (s1:=Ji x l ((0:Nat):Int)) _ (Nc x l) (Jj x l) rfl (by decide) rfl g) (by decide) (by kernel_rfl)
  (λj hj hb _=>?_) (λi=>bS 18 4 true) (λi=>[.bool true]) (λj hj hb _=>⟨?_,rfl,rfl⟩) (sE:=⟨slotsOf 18 [],[],true⟩) (uM:=bS 18 4 false) (vE:=[.bool false]) (xE:=.ret) (λ_=>?_) (λ_=>⟨?_,.inl rfl,rfl,rfl⟩)
 ·rw [bX (g:=SV.bool) (vF:=λ_:Nat=>true) (vE:=false)] at key
  exact key
 ·have e:=Y0 x l j
  rw [cq (by omega)] at e
  exact Tr.aR (cZ [(9,true),(17,false)]) 60 _ 0 (aaf _) (s':=Ji x l ((j+1:Nat):Int)) _ e (S7 x l j) (by
   rw [aaa,fo hj,bf hj,Me hj,hb];rfl)
 ·have hb':(l.getD j 0==x)=true:=by simpa using hb
  exact Tr.aR (cZ [(9,true),(17,true)]) 60 _ 0 (aaf _) (s':=bS 18 4 true) _ (Y1 x l j) (S8 x l j) (by
   rw [aaa,fo hj,bf hj,Me hj,hb'];rfl)
 ·exact Tr.aR (cZ [(9,false)]) 60 _ 0 (aaf _) (s':=⟨slotsOf 18 [],[],true⟩) _ (S9 x l _) (Nd x l _) (by rw [fA (aaf _)];rfl)
 ·exact aV.rest (cZ []) 60 (by kernel_rfl) rfl
theorem ua {N fr:Nat} {t:Nat->aj} (h:N<=274877906944) (hf:fr<=274877906944):ai prog 57 [.aJ false 99 N (aq t),.int .i64 ((fr:Nat):Int)] [] (.bool (!dy N t fr)) []:=by
 have key:=ai.scan (P:=prog) (args:=[.aJ false 99 N (aq t),.int .i64 ((fr:Nat):Int)]) (h:=[]) (h':=[]) func57 rfl 2 0 (λj:Nat=>Jk N t ((2*fr+2*j:Nat):Int)) (λj=>!(t (2*fr+2*j)).used) ((N+1-2*fr)/2)
  (λx s' g=>aV.bk (cZ []) 60 2 _ 0 (by simp) (s1:=Jk N t ((2*fr+2*0:Nat):Int)) _ (by have:=Nf N t fr;rw [cg (by omega) (by omega)] at this;rw [show ((2*fr+2*0:Nat):Int)=2*(fr:Int) by omega];exact this) (Jl N t fr) rfl (by decide) rfl g) (by decide) (by kernel_rfl)
  (λj hj hb _=>?_) (λi=>bS 19 4 true) (λi=>[.bool true]) (λj hj hb _=>⟨?_,rfl,rfl⟩) (sE:=⟨slotsOf 19 [],[],true⟩) (uM:=bS 19 4 false) (vE:=[.bool false]) (xE:=.ret) (λ_=>?_) (λ_=>⟨?_,.inl rfl,rfl,rfl⟩)
 ·rw [bX (g:=SV.bool) (vF:=λ_:Nat=>true) (vE:=false)] at key
  have hv:bP (λj=>!(t (2*fr+2*j)).used) ((N+1-2*fr)/2) (λ_=>true) false=!dy N t fr:=by
   unfold bP dy;rw [<-cY];cases b6 _ _<;>rfl
  rw [hv] at key;exact key
 ·have e:=Y2 N t ((2*fr+2*j:Nat):Int)
  rw [cg (by omega) (by omega),show ((2*fr+2*j:Nat):Int)+2=((2*fr+2*(j+1):Nat):Int) by omega] at e
  have hlt:2*fr+2*j<N:=by omega
  exact Tr.aR (cZ [(11,true),(18,false)]) 60 _ 0 (aaf _) (s':=Jk N t ((2*fr+2*(j+1):Nat):Int)) _ e (Ta N t _) (by
   rw [aaa,fo hlt,bf hlt,Me hlt,show (!(t (2*fr+2*j)).1)=true from hb];rfl)
 ·have hlt:2*fr+2*j<N:=by omega
  have hb':(t (2*fr+2*j)).used=true:=by simpa using hb
  exact Tr.aR (cZ [(11,true),(18,true)]) 60 _ 0 (aaf _) (s':=bS 19 4 true) _ (Y3 N t _) (Tb N t _) (by
   rw [aaa,fo hlt,bf hlt,Me hlt,show (t (2*fr+2*j)).1=true from hb'];rfl)
 ·exact Tr.aR (cZ [(11,false)]) 60 _ 0 (aaf _) (s':=⟨slotsOf 19 [],[],true⟩) _ (Tc N t _) (Ng N t _) (by rw [fA (by omega)];rfl)
 ·exact aV.rest (cZ []) 60 (by kernel_rfl) rfl
theorem Jn (a:aj):ai prog 59 [.agg a.cells] [] (.bool (DM a.used a.name a.un)) []:=by
 unfold DM
 cases h0:a.used with
 |false=>exact aI (cZ _) 60 func59 (aeA a) (by rw [h0];rfl) rfl
 |true=>
  cases h1:decide (a.name>=0) with
  |false=>exact aI (cZ _) 60 func59 (aeB a) (by rw [h0,h1];rfl) rfl
  |true=>
   cases h2:decide (a.name<=255) with
   |false=>exact aI (cZ _) 60 func59 (aeC a) (by rw [h0,h1,h2];rfl) rfl
   |true=>exact aI (cZ _) 60 func59 (aeD a) (by rw [h0,h1,h2];rfl) rfl
end Go.Proofs.YthlnlcijnoadcaaGreatDoor.Tr
