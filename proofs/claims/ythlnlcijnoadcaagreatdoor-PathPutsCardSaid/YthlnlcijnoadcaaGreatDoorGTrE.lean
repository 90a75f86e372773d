/- This file holds the texts TrD, TrE, a section each. No conditions beyond those in the theorems. -/
import Derived.Test.YthlnlcijnoadcaaGreatDoorGTrC
import Derived.Test.YthlnlcijnoadcaaGreatDoorGSxF
noncomputable section
open Go.Proofs.Tryz
open Go.IntKind (i64 u8 u64 u32)
set_option linter.all false
set_option maxRecDepth 100000
section
namespace Go.Proofs.YthlnlcijnoadcaaGreatDoor.Tr
open Go Go.Sy
theorem cg {n:Int} (h0: -4611686018427387904<=n) (h1:n<4611686018427387904):i64.wrap n=n:=IntWalk.i64_in n (by omega)
theorem cq {i:Nat} (h:i<274877906944+2):i64.wrap ((i:Int)+1)=((i+1:Nat):Int):=by
 rw [cg (by omega) (by omega)];omega
theorem mK {i:Int} {n:Nat} (h0:0<=i) (h1:i<n):aX i n=true:=by
 unfold aX
 simp only [aac,aab]
 omega
theorem bf {i n:Nat} (h:i<n):aX (i:Int) n=true:=mK (by omega) (by omega)
theorem fo {i n:Nat} (h:i<n):decide ((i:Int)<(n:Int))=true:=Me (by omega)
theorem fA {i n:Nat} (h:n<=i):decide ((i:Int)<(n:Int))=false:=aam (by omega)
theorem bY {l:List Int} {i:Nat} (h:i<l.length):l.getD i 0=l[i]:=by simp [List.getD,aai h]
theorem ur {l:List Int} {p:Int->Bool}:(List.range l.length).all (λi=>p (l.getD i 0))=l.all p:=by
 rw [Bool.eq_iff_iff,aah,aah]
 constructor
 ·intro h x hx
  obtain ⟨i,hi,rfl⟩:=List.getElem_of_mem hx
  have:=h i (aan.2 hi)
  rwa [bY hi] at this
 ·intro h i hi
  have hi:=aan.1 hi
  rw [bY hi]
  exact h _ (List.getElem_mem hi)
def ixT (a b:Bool):Nat->Option Bool:=λi=>if i=9 then some a else if i=16 then some b else none
def xX (a b:Bool):bO:=mk (P:=prog) [] [] (ixT a b)
theorem jb (a b:Bool):ak prog (xX a b):=az _ aL.nil _ _
def z6:Code:=aP f161
def uL (xs:List Int) (v:Int) (i:Int):St:=⟨slotsOf 19 [(0,.ro false .i64 xs),(1,.int .i64 v),(7,.int .i64 xs.length),(8,.int .i64 i)],[],true⟩
def Kx (i:Int):St:=⟨slotsOf 19 [(4,.int .i64 i)],[],true⟩
def uu (xs:List Int) (v:Int):Int:=bP (λi=>!(v==xs.getD i 0)) xs.length (λi=>(i:Int)) (-1)
section
variable (xs:List Int) (v i:Int)
theorem xb:(aE prog (xX true true) 60 0 2 (atoms z6) ⟨aD f161.ntmps [.ro false .i64 xs,.int .i64 v],[],true⟩).bind (St.cut [0,1,7,8] 0)=some (uL xs v 0):=by kernel_rfl
theorem RT:aA (ah [0,1,7,8] 0 (exec prog (xX true false) 60 0 (inner (inner (au 2 z6))) (uL xs v i)))=some (.normal,(uL xs v (i64.wrap (i+1))).t,[]):=by kernel_rfl
theorem Mq:aZ (ah [0,1,7,8] 0 (exec prog (xX true false) 60 0 (inner (inner (au 2 z6))) (uL xs v i)))=aa (aa (aa (aa true (decide (i<(xs.length:Int)))) (aX i xs.length)) (decide (i.toNat<xs.length))) (!(v==xs.getD i.toNat 0)):=by kernel_rfl
theorem AL:aA (ah [4] 0 (exec prog (xX true true) 60 0 (inner (inner (au 2 z6))) (uL xs v i)))=some (.ret,(Kx i).t,[]):=by kernel_rfl
theorem xd:aZ (ah [4] 0 (exec prog (xX true true) 60 0 (inner (inner (au 2 z6))) (uL xs v i)))=aa (aa (aa (aa true (decide (i<(xs.length:Int)))) (aX i xs.length)) (decide (i.toNat<xs.length))) (v==xs.getD i.toNat 0):=by kernel_rfl
theorem AM:aA (ah [] 0 (exec prog (xX false true) 60 0 (inner (inner (au 2 z6))) (uL xs v i)))=some (.exit 0,slotsOf 19 [],[]):=by kernel_rfl
theorem xe:aZ (ah [] 0 (exec prog (xX false true) 60 0 (inner (inner (au 2 z6))) (uL xs v i)))=aa true (!decide (i<(xs.length:Int))):=by kernel_rfl
end
theorem bX {b:Nat->Bool} {N:Nat} {α:Type} {g:α->SV} {vF:Nat->α} {vE:α}:oneOf (bP b N (λi=>[g (vF i)]) [g vE])=g (bP b N vF vE):=by
 unfold bP;cases b6 b N<;>rfl
theorem tD {xs:List Int} {v:Int} (h:xs.length<=274877906944):ai prog 161 [.ro false .i64 xs,.int .i64 v] [] (.int .i64 (uu xs v)) []:=by
 have key:=ai.scan (P:=prog) (args:=[.ro false .i64 xs,.int .i64 v]) (h:=[]) (h':=[]) func161 rfl 2 0 (λj:Nat=>uL xs v j) (λi=>!(v==xs.getD i 0)) xs.length
  (λx s' g=>aV.items (jb true true) 60 2 _ 0 (by simp) (xb xs v) rfl (by decide) g) (by decide) (by kernel_rfl)
  (λi hi hb _=>?_) (λi=>Kx i) (λi=>[.int .i64 (i:Int)]) (λi hi hb _=>⟨?_,rfl,rfl⟩) (sE:=⟨slotsOf 19 [],[],true⟩) (uM:=Kx (-1)) (vE:=[.int .i64 (-1)]) (xE:=.ret) (λ_=>?_) (λ_=>⟨?_,.inl rfl,rfl,rfl⟩)
 ·rw [bX (g:=SV.int .i64) (vF:=λi:Nat=>(i:Int)) (vE:=-1)] at key
  exact key
 ·have e:=RT xs v i
  rw [cq (by omega)] at e
  exact Tr.aR (jb true false) 60 _ 0 (aaf _) (s':=uL xs v ((i+1:Nat):Int)) _ e (Mq xs v i) (by rw [fo hi,bf hi,aaa,Me hi,hb];rfl)
 ·exact Tr.aR (jb true true) 60 _ 0 (aaf _) (s':=Kx i) _ (AL xs v i) (xd xs v i) (by rw [fo hi,bf hi,aaa,Me hi,show (v==xs.getD i 0)=true by simpa using hb];rfl)
 ·exact Tr.aR (jb false true) 60 _ 0 (aaf _) (s':=⟨slotsOf 19 [],[],true⟩) _ (AM xs v xs.length) (xe xs v xs.length) (by rw [fA (aaf _)];rfl)
 ·exact aV.rest (jb true true) 60 (by kernel_rfl) rfl
def hasB (xs:List Int) (v:Int):Bool:=xs.any λx=>v==x
theorem Ey (xs:List Int) (v:Int):decide (uu xs v>=0)=hasB xs v:=by
 have h1:xs.all (λx=>!(v==x))=!hasB xs v:=by simp [hasB,List.all_eq_not_any_not]
 have h2:=ur (l:=xs) (p:=λx=>!(v==x))
 rw [<-cY,h1] at h2
 unfold uu bP
 cases hq:b6 (λi=>!(v==xs.getD i 0)) xs.length with
 |none=>
  rw [hq] at h2
  rw [show hasB xs v=false by simpa using h2.symm]
  decide
 |some i=>
  rw [hq] at h2
  rw [show hasB xs v=true by simpa using h2.symm]
  exact Me (show (i:Int)>=0 by omega)
def Iu:List SV->Option (SV×List Blk×Bool)
 | [.ro false .i64 xs,.int .i64 v]=>some (.int .i64 (uu xs v),[],decide (xs.length<=274877906944))
 |_=>none
def RU:Entry prog:=.val 161 _ func161 (by decide) rfl true 0 Iu λvs v new e=>by
 unfold Iu at e
 split at e
 ·simp only [No,aae,aab] at e
  obtain ⟨rfl,rfl,h⟩:=e
  exact tD h
 ·cases e
def J0:bO:=mk (P:=prog) [RU] []
theorem lB:ak prog J0:=az _ aL.nil _ _
theorem RV (xs:List Int) (v:Int):(aG prog J0 60 f112 [.ro false .i64 xs,.int .i64 v] []).map (λx=>(x.1,x.2.2))=some (.bool (decide (uu xs v>=0)),aa true (aa true (decide (xs.length<=274877906944)))):=by kernel_rfl
theorem zI {xs:List Int} {v:Int} (h:xs.length<=274877906944):ai prog 112 [.ro false .i64 xs,.int .i64 v] [] (.bool (hasB xs v)) []:=by
 rw [<-Ey]
 exact aI lB 60 func112 (RV xs v) (by rw [Me h];rfl) rfl
def v7:List SV->Option (SV×List Blk×Bool)
 | [.ro false .i64 xs,.int .i64 v]=>some (.bool (hasB xs v),[],decide (xs.length<=274877906944))
 |_=>none
def iL:Entry prog:=.val 112 _ func112 (by decide) rfl true 0 v7 λvs v new e=>by
 unfold v7 at e
 split at e
 ·simp only [No,aae,aab] at e
  obtain ⟨rfl,rfl,h⟩:=e
  exact zI h
 ·cases e
end Go.Proofs.YthlnlcijnoadcaaGreatDoor.Tr
end
section
namespace Go.Proofs.YthlnlcijnoadcaaGreatDoor.Tr
open Go Go.Sy
def eqT (a b c:Bool):Nat->Option Bool:=λi=>if i=10 then some a else if i=14 then some b else if i=24 then some c else none
def J1 (a b c:Bool):bO:=mk (P:=prog) [] [] (eqT a b c)
theorem qH (a b c:Bool):ak prog (J1 a b c):=az _ aL.nil _ _
def OY:Code:=aP f131
def eq0 (xs ys:List Int):St:=⟨aD f131.ntmps [.ro false .i64 xs,.ro false .i64 ys],[],true⟩
def J2 (xs ys:List Int) (i:Int):St:=⟨slotsOf 26 [(0,.ro false .i64 xs),(1,.ro false .i64 ys),(12,.int .i64 xs.length),(13,.int .i64 i)],[],true⟩
def eqF (b:Bool):St:=⟨slotsOf 26 [(4,.bool b)],[],true⟩
theorem Ym (xs ys:List Int):(aG prog (J1 true true true) 60 f131 [.ro false .i64 xs,.ro false .i64 ys] []).map (λx=>(x.1,x.2.2))=some (.bool false,aa true (((xs.length:Nat):Int) != ((ys.length:Nat):Int))):=by kernel_rfl
theorem Mr (xs ys:List Int):aA (ah [0,1,12,13] 0 ((aE prog (J1 false true true) 60 0 4 (atoms OY) (eq0 xs ys)).map λs=>(Exit.normal,s)))=some (.normal,(J2 xs ys 0).t,[]):=by kernel_rfl
theorem Iv (xs ys:List Int):aZ (ah [0,1,12,13] 0 ((aE prog (J1 false true true) 60 0 4 (atoms OY) (eq0 xs ys)).map λs=>(Exit.normal,s)))=(aa true !((xs.length:Nat):Int) != ((ys.length:Nat):Int)):=by kernel_rfl
theorem RW (xs ys:List Int) (i:Int):aA (ah [0,1,12,13] 0 (exec prog (J1 false true false) 60 0 (inner (inner (au 4 OY))) (J2 xs ys i)))=some (.normal,(J2 xs ys (i64.wrap (i+1))).t,[]):=by kernel_rfl
theorem Ms (xs ys:List Int) (i:Int):aZ (ah [0,1,12,13] 0 (exec prog (J1 false true false) 60 0 (inner (inner (au 4 OY))) (J2 xs ys i)))=(aa (aa (aa (aa (aa (aa true (decide (i<((xs.length:Nat):Int)))) (aX i xs.length)) (decide (i.toNat<xs.length))) (aX i ys.length)) (decide (i.toNat<ys.length))) !xs.getD i.toNat 0 != ys.getD i.toNat 0):=by kernel_rfl
theorem RX (xs ys:List Int) (i:Int):aA (ah [4] 0 (exec prog (J1 false true true) 60 0 (inner (inner (au 4 OY))) (J2 xs ys i)))=some (.ret,(eqF false).t,[]):=by kernel_rfl
theorem Mt (xs ys:List Int) (i:Int):aZ (ah [4] 0 (exec prog (J1 false true true) 60 0 (inner (inner (au 4 OY))) (J2 xs ys i)))=(aa (aa (aa (aa (aa (aa true (decide (i<((xs.length:Nat):Int)))) (aX i xs.length)) (decide (i.toNat<xs.length))) (aX i ys.length)) (decide (i.toNat<ys.length))) (xs.getD i.toNat 0 != ys.getD i.toNat 0)):=by kernel_rfl
theorem RY (xs ys:List Int) (i:Int):aA (ah [] 0 (exec prog (J1 false false false) 60 0 (inner (inner (au 4 OY))) (J2 xs ys i)))=some (.exit 0,slotsOf 26 [],[]):=by kernel_rfl
theorem Mu (xs ys:List Int) (i:Int):aZ (ah [] 0 (exec prog (J1 false false false) 60 0 (inner (inner (au 4 OY))) (J2 xs ys i)))=(aa true !decide (i<((xs.length:Nat):Int))):=by kernel_rfl
theorem Iw {xs ys:List Int} (h:xs.length<=274877906944):ai prog 131 [.ro false .i64 xs,.ro false .i64 ys] [] (.bool (decide (xs=ys))) []:=by
 by_cases hl:xs.length=ys.length
 ·have key:=ai.scan (P:=prog) (args:=[.ro false .i64 xs,.ro false .i64 ys]) (h:=[]) (h':=[]) func131 rfl 4 0 (λj:Nat=>J2 xs ys j) (λi=>!(xs.getD i 0 != ys.getD i 0)) xs.length
   (λx s' g=>aV.bk (qH false true true) 60 4 _ 0 (by simp) _ (Mr xs ys) (Iv xs ys) (by simp [hl,aa]) (by decide) rfl g) (by decide) (by kernel_rfl)
   (λi hi hb _=>?_) (λi=>eqF false) (λi=>[.bool false]) (λi hi hb _=>⟨?_,rfl,rfl⟩) (sE:=⟨slotsOf 26 [],[],true⟩) (uM:=eqF true) (vE:=[.bool true]) (xE:=.ret) (λ_=>?_) (λ_=>⟨?_,.inl rfl,rfl,rfl⟩)
  ·rw [bX (g:=SV.bool) (vF:=λ_:Nat=>false) (vE:=true)] at key
   have hv:bP (λi=>!(xs.getD i 0 != ys.getD i 0)) xs.length (λ_=>false) true=decide (xs=ys):=by
    have h1:bP (λi=>!(xs.getD i 0 != ys.getD i 0)) xs.length (λ_=>false) true=(List.range xs.length).all (λi=>!(xs.getD i 0 != ys.getD i 0)):=by
     unfold bP;rw [<-cY];cases b6 _ _<;>rfl
    rw [h1,Bool.eq_iff_iff,aah,aab]
    constructor
    ·intro g
     apply List.ext_getElem hl
     intro i h1 h2
     have:=g i (aan.2 h1)
     rw [bY h1,bY h2] at this
     simpa using this
    ·rintro rfl i _;simp
   rw [hv] at key;exact key
  ·have e:=RW xs ys i
   rw [cq (by omega)] at e
   exact Tr.aR (qH false true false) 60 _ 0 (aaf _) (s':=J2 xs ys ((i+1:Nat):Int)) _ e (Ms xs ys i) (by rw [fo hi,bf hi,bf (hl▸hi),aaa,Me hi,Me (hl▸hi:i<ys.length),hb];rfl)
  ·exact Tr.aR (qH false true true) 60 _ 0 (aaf _) (s':=eqF false) _ (RX xs ys i) (Mt xs ys i) (by rw [fo hi,bf hi,bf (hl▸hi),aaa,Me hi,Me (hl▸hi:i<ys.length),show (xs.getD i 0 != ys.getD i 0)=true by simpa using hb];rfl)
  ·exact Tr.aR (qH false false false) 60 _ 0 (aaf _) (s':=⟨slotsOf 26 [],[],true⟩) _ (RY xs ys xs.length) (Mu xs ys xs.length) (by rw [fA (aaf _)];rfl)
  ·exact aV.rest (qH true true true) 60 (by kernel_rfl) rfl
 ·rw [aam (λq=>hl (by rw [q]))]
  exact aI (qH true true true) 60 func131 (Ym xs ys) (by rw [show (((xs.length:Nat):Int) != ((ys.length:Nat):Int))=true by simpa using λh=>hl (by omega)];rfl) rfl
def Ix:List SV->Option (SV×List Blk×Bool)
 | [.ro false .i64 xs,.ro false .i64 ys]=>some (.bool (decide (xs=ys)),[],decide (xs.length<=274877906944))
 |_=>none
def RZ:Entry prog:=.val 131 _ func131 (by decide) rfl true 0 Ix λvs v new e=>by
 unfold Ix at e
 split at e
 ·simp only [No,aae,aab] at e
  obtain ⟨rfl,rfl,h⟩:=e
  exact Iw h
 ·cases e
def OZ:List (FuncId×Func):=[(246,f246)]
theorem Iy:aL prog OZ:=aL.cons func246 (by decide) aL.nil
def leC:bO:=mk (P:=prog) [] OZ λi=>if i=5\/i=6 then some false else none
theorem R4:ak prog leC:=az _ Iy _ _
def Iz:List SV->Option (SV×List Blk×Bool)
 | [.int .i64 x,.int .i64 y]=>some (.bool (decide (x<y)),[],true)
 |_=>none
def R5:Entry prog:=.val 201 _ func201 (by decide) rfl false 0 Iz λvs v new e=>by
 unfold Iz at e
 split at e
 ·simp only [No,aae] at e
  obtain ⟨rfl,rfl,_⟩:=e
  rename_i x y _
  exact aI R4 60 func201 (p:=aa true (aa true (!(x != x)))) (by kernel_rfl) (by simp [aa]) rfl
 ·cases e
def soT (a b:Bool):Nat->Option Bool:=λi=>if i=8 then some a else if i=20 then some b else none
def Mv (a b:Bool):bO:=mk (P:=prog) [R5] [] (soT a b)
theorem uv (a b:Bool):ak prog (Mv a b):=az _ aL.nil _ _
def O0:Code:=aP f162
def IA (xs:List Int) (i:Int):St:=⟨slotsOf 21 [(0,.ro false .i64 xs),(3,.int .i64 i)],[],true⟩
def soF (b:Bool):St:=⟨slotsOf 21 [(2,.bool b)],[],true⟩
theorem Mw (xs:List Int):aA (ah [0,3] 0 ((aE prog (Mv true true) 60 0 2 (atoms O0) ⟨aD f162.ntmps [.ro false .i64 xs],[],true⟩).map λs=>(Exit.normal,s)))=some (.normal,(IA xs (i64.wrap ((xs.length:Int)-1))).t,[]):=by kernel_rfl
theorem IB (xs:List Int):aZ (ah [0,3] 0 ((aE prog (Mv true true) 60 0 2 (atoms O0) ⟨aD f162.ntmps [.ro false .i64 xs],[],true⟩).map λs=>(Exit.normal,s)))=(true):=by kernel_rfl
theorem R6 (xs:List Int) (i:Int):aA (ah [0,3] 0 (exec prog (Mv true false) 60 0 (inner (inner (au 2 O0))) (IA xs i)))=some (.normal,(IA xs (i64.wrap (i-1))).t,[]):=by kernel_rfl
theorem Mx (xs:List Int) (i:Int):aZ (ah [0,3] 0 (exec prog (Mv true false) 60 0 (inner (inner (au 2 O0))) (IA xs i)))=(aa (aa (aa (aa (aa (aa true (decide (i>0))) (aX i xs.length)) (decide (i.toNat<xs.length))) (aX (i64.wrap (i-1)) xs.length)) (decide ((i64.wrap (i-1)).toNat<xs.length))) !decide (xs.getD i.toNat 0<xs.getD (i64.wrap (i-1)).toNat 0)):=by kernel_rfl
theorem R7 (xs:List Int) (i:Int):aA (ah [2] 0 (exec prog (Mv true true) 60 0 (inner (inner (au 2 O0))) (IA xs i)))=some (.ret,(soF false).t,[]):=by kernel_rfl
theorem My (xs:List Int) (i:Int):aZ (ah [2] 0 (exec prog (Mv true true) 60 0 (inner (inner (au 2 O0))) (IA xs i)))=(aa (aa (aa (aa (aa (aa true (decide (i>0))) (aX i xs.length)) (decide (i.toNat<xs.length))) (aX (i64.wrap (i-1)) xs.length)) (decide ((i64.wrap (i-1)).toNat<xs.length))) (decide (xs.getD i.toNat 0<xs.getD (i64.wrap (i-1)).toNat 0))):=by kernel_rfl
theorem R8 (xs:List Int) (i:Int):aA (ah [] 0 (exec prog (Mv false false) 60 0 (inner (inner (au 2 O0))) (IA xs i)))=some (.exit 0,slotsOf 21 [],[]):=by kernel_rfl
theorem Mz (xs:List Int) (i:Int):aZ (ah [] 0 (exec prog (Mv false false) 60 0 (inner (inner (au 2 O0))) (IA xs i)))=(aa true !decide (i>0)):=by kernel_rfl
def eS (xs:List Int):Bool:=(List.range (xs.length-1)).all λj=>!decide (xs.getD (xs.length-1-j) 0<xs.getD (xs.length-1-j-1) 0)
theorem Ez {xs:List Int} (h:xs.length<=274877906944):ai prog 162 [.ro false .i64 xs] [] (.bool (eS xs)) []:=by
 have key:=ai.scan (P:=prog) (args:=[.ro false .i64 xs]) (h:=[]) (h':=[]) func162 rfl 2 0 (λj:Nat=>IA xs ((xs.length:Int)-1-j)) (λj=>!decide (xs.getD (xs.length-1-j) 0<xs.getD (xs.length-1-j-1) 0)) (xs.length-1)
  (λx s' g=>aV.bk (uv true true) 60 2 _ 0 (by simp) (s1:=IA xs ((xs.length:Int)-1-(0:Nat))) _ (by have:=Mw xs;rw [cg (by omega) (by omega)] at this;rw [show (xs.length:Int)-1-((0:Nat):Int)=(xs.length:Int)-1 by omega];exact this) (IB xs) rfl (by decide) rfl g) (by decide) (by kernel_rfl)
  (λj hj hb _=>?_) (λi=>soF false) (λi=>[.bool false]) (λj hj hb _=>⟨?_,rfl,rfl⟩) (sE:=⟨slotsOf 21 [],[],true⟩) (uM:=soF true) (vE:=[.bool true]) (xE:=.ret) (λ_=>?_) (λ_=>⟨?_,.inl rfl,rfl,rfl⟩)
 ·rw [bX (g:=SV.bool) (vF:=λ_:Nat=>false) (vE:=true)] at key
  have hv:bP (λj=>!decide (xs.getD (xs.length-1-j) 0<xs.getD (xs.length-1-j-1) 0)) (xs.length-1) (λ_=>false) true=eS xs:=by
   unfold bP eS;rw [<-cY];cases b6 _ _<;>rfl
  rw [hv] at key;exact key
 ·have e:=R6 xs ((xs.length:Int)-1-j)
  have hi:(xs.length:Int)-1-j=((xs.length-1-j:Nat):Int):=by omega
  have hi2:(xs.length:Int)-1-j-1=((xs.length-1-j-1:Nat):Int):=by omega
  have e':=Mx xs ((xs.length:Int)-1-j)
  rw [cg (by omega) (by omega)] at e e'
  refine Tr.aR (uv true false) 60 _ 0 (aaf _) (s':=IA xs ((xs.length:Int)-1-((j+1:Nat):Int))) _ (by rw [show (xs.length:Int)-1-((j+1:Nat):Int)=(xs.length:Int)-1-j-1 by omega];exact e) e' ?_
  rw [hi2,hi,aaa,aaa,bf (by omega),bf (by omega),Me (show xs.length-1-j<xs.length by omega),Me (show xs.length-1-j-1<xs.length by omega),Me (show ((xs.length-1-j:Nat):Int)>0 by omega),hb]
  rfl
 ·have e:=R7 xs ((xs.length:Int)-1-j)
  have hi:(xs.length:Int)-1-j=((xs.length-1-j:Nat):Int):=by omega
  have hi2:(xs.length:Int)-1-j-1=((xs.length-1-j-1:Nat):Int):=by omega
  have e':=My xs ((xs.length:Int)-1-j)
  rw [cg (by omega) (by omega)] at e'
  refine Tr.aR (uv true true) 60 _ 0 (aaf _) (s':=soF false) _ e e' ?_
  have hb':decide (xs.getD (xs.length-1-j) 0<xs.getD (xs.length-1-j-1) 0)=true:=by simpa using hb
  rw [hi2,hi,aaa,aaa,bf (by omega),bf (by omega),Me (show xs.length-1-j<xs.length by omega),Me (show xs.length-1-j-1<xs.length by omega),Me (show ((xs.length-1-j:Nat):Int)>0 by omega),hb']
  rfl
 ·refine Tr.aR (uv false false) 60 _ 0 (aaf _) (s':=⟨slotsOf 21 [],[],true⟩) _ (R8 xs _) (Mz xs _) ?_
  rw [aam (by omega)]
  rfl
 ·exact aV.rest (uv true true) 60 (by kernel_rfl) rfl
def CT:List SV->Option (SV×List Blk×Bool)
 | [.ro false .i64 xs]=>some (.bool (eS xs),[],decide (xs.length<=274877906944))
 |_=>none
def MA:Entry prog:=.val 162 _ func162 (by decide) rfl true 0 CT λvs v new e=>by
 unfold CT at e
 split at e
 ·simp only [No,aae,aab] at e
  obtain ⟨rfl,rfl,h⟩:=e
  exact Ez h
 ·cases e
end Go.Proofs.YthlnlcijnoadcaaGreatDoor.Tr
end
