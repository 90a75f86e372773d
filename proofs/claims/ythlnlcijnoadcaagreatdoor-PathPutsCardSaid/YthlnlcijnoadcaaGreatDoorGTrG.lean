/- This file holds the texts TrF, TrG, a section each. No conditions beyond those in the theorems. -/
import Derived.Test.YthlnlcijnoadcaaGreatDoorGTrE
noncomputable section
open Go.Proofs.Tryz
open Go.IntKind (i64 u8 u64 u32)
set_option linter.all false
set_option maxRecDepth 100000
section
namespace Go.Proofs.YthlnlcijnoadcaaGreatDoor.Tr
open Go Go.Sy
def kq (u u':Bool) (n n':Int) (k s p un k' s' p' rz:List Int):Bool:=(u==u')&&(n==n')&&decide (k=k')&&decide (s=s')&&decide (p=p')&&decide (un=rz)
def smT (a b c d e:Bool):Nat->Option Bool:=λi=>if i=10 then some a else if i=17 then some b else if i=24 then some c else if i=31 then some d else if i=38 then some e else none
def R9 (a b c d e:Bool):bO:=mk (P:=prog) [RZ] [] (smT a b c d e)
theorem qI (a b c d e:Bool):ak prog (R9 a b c d e):=az _ aL.nil _ _
theorem ad5 (u u':Bool) (n n':Int) (k s p un k' s' p' rz:List Int):(aG prog (R9 false false false false false) 60 f114 [pM u n k s p un,pM u' n' k' s' p' rz] []).map (λx=>(x.1,x.2.2))=some (.bool false,aa true !u==u'):=by kernel_rfl
theorem ad6 (u u':Bool) (n n':Int) (k s p un k' s' p' rz:List Int):(aG prog (R9 true false false false false) 60 f114 [pM u n k s p un,pM u' n' k' s' p' rz] []).map (λx=>(x.1,x.2.2))=some (.bool false,aa (aa true (u==u')) !n==n'):=by kernel_rfl
theorem ad7 (u u':Bool) (n n':Int) (k s p un k' s' p' rz:List Int):(aG prog (R9 true true false false false) 60 f114 [pM u n k s p un,pM u' n' k' s' p' rz] []).map (λx=>(x.1,x.2.2))=some (.bool false,aa (aa (aa (aa true (u==u')) (n==n')) (aa (decide (k.length=32)) (decide (k'.length=32)))) !decide (k=k')):=by kernel_rfl
theorem ad8 (u u':Bool) (n n':Int) (k s p un k' s' p' rz:List Int):(aG prog (R9 true true true false false) 60 f114 [pM u n k s p un,pM u' n' k' s' p' rz] []).map (λx=>(x.1,x.2.2))=some (.bool false,aa (aa (aa (aa (aa (aa true (u==u')) (n==n')) (aa (decide (k.length=32)) (decide (k'.length=32)))) (decide (k=k'))) (aa (decide (s.length=32)) (decide (s'.length=32)))) !decide (s=s')):=by kernel_rfl
theorem ad9 (u u':Bool) (n n':Int) (k s p un k' s' p' rz:List Int):(aG prog (R9 true true true true false) 60 f114 [pM u n k s p un,pM u' n' k' s' p' rz] []).map (λx=>(x.1,x.2.2))=some (.bool false,aa (aa (aa (aa (aa (aa (aa (aa true (u==u')) (n==n')) (aa (decide (k.length=32)) (decide (k'.length=32)))) (decide (k=k'))) (aa (decide (s.length=32)) (decide (s'.length=32)))) (decide (s=s'))) (aa (decide (p.length=32)) (decide (p'.length=32)))) !decide (p=p')):=by kernel_rfl
theorem aea (u u':Bool) (n n':Int) (k s p un k' s' p' rz:List Int):(aG prog (R9 true true true true true) 60 f114 [pM u n k s p un,pM u' n' k' s' p' rz] []).map (λx=>(x.1,x.2.2))=some (.bool (decide (un=rz)),aa (aa (aa (aa (aa (aa (aa (aa (aa true (u==u')) (n==n')) (aa (decide (k.length=32)) (decide (k'.length=32)))) (decide (k=k'))) (aa (decide (s.length=32)) (decide (s'.length=32)))) (decide (s=s'))) (aa (decide (p.length=32)) (decide (p'.length=32)))) (decide (p=p'))) (aa true (decide (un.length<=274877906944)))):=by kernel_rfl
theorem CU {u u':Bool} {n n':Int} {k s p un k' s' p' rz:List Int} (h1:k.length=32) (h2:k'.length=32) (h3:s.length=32) (h4:s'.length=32) (h5:p.length=32) (h6:p'.length=32) (hl:un.length<=274877906944):
  ai prog 114 [pM u n k s p un,pM u' n' k' s' p' rz] [] (.bool (kq u u' n n' k s p un k' s' p' rz)) []:=by
 unfold kq
 cases e1:(u==u') with
 |false=>exact aI (qI false false false false false) 60 func114 (ad5 u u' n n' k s p un k' s' p' rz) (by simp [aa,e1]) rfl
 |true=>
  cases e2:(n==n') with
  |false=>exact aI (qI true false false false false) 60 func114 (ad6 u u' n n' k s p un k' s' p' rz) (by simp [aa,e1,e2]) rfl
  |true=>
   by_cases e3:k=k'
   ·by_cases e4:s=s'
    ·by_cases e5:p=p'
     ·rw [Me e3,Me e4,Me e5]
      exact aI (qI true true true true true) 60 func114 (aea u u' n n' k s p un k' s' p' rz) (by simp [aa,e1,e2,e3,e4,e5,h2,h4,h6,hl]) rfl
     ·rw [aam e5,acC,adw]
      exact aI (qI true true true true false) 60 func114 (ad9 u u' n n' k s p un k' s' p' rz) (by simp [aa,e1,e2,e3,e4,e5,h2,h4,h5,h6]) rfl
    ·rw [aam e4,acC,adw,adw]
     exact aI (qI true true true false false) 60 func114 (ad8 u u' n n' k s p un k' s' p' rz) (by simp [aa,e1,e2,e3,e4,h2,h3,h4]) rfl
   ·rw [aam e3,acC,adw,adw,adw]
    exact aI (qI true true false false false) 60 func114 (ad7 u u' n n' k s p un k' s' p' rz) (by simp [aa,e1,e2,e3,h1,h2]) rfl
def jH (k s p un:List Int):Bool:=decide (k.length=32)&&decide (s.length=32)&&decide (p.length=32)&&decide (un.length<=274877906944)
def O1:List SV->Option (SV×List Blk×Bool)
 | [.agg [.bool u,.int .i64 n,.ints .u8 32 k,.ints .u8 32 s,.ints .u8 32 p,.ro false .i64 un],.agg [.bool u',.int .i64 n',.ints .u8 32 k',.ints .u8 32 s',.ints .u8 32 p',.ro false .i64 rz]]=>some (.bool (kq u u' n n' k s p un k' s' p' rz),[],jH k s p un&&jH k' s' p' rz)
 | [.agg [.bool u,.int .i64 n,.ints .u8 32 k,.ints .u8 32 s,.ints .u8 32 p,.ro false .i64 un],.agg [.bool u',.int .i64 n',.ints .u8 32 k',.ints .u8 32 s',.ints .u8 32 p',.nl (.slice none 0 0)]]=>some (.bool (kq u u' n n' k s p un k' s' p' []),[],jH k s p un&&jH k' s' p' [])
 |_=>none
theorem kB {k s p un:List Int}:jH k s p un=true↔k.length=32/\s.length=32/\p.length=32/\un.length<=274877906944:=by
 simp [jH,and_assoc]
theorem VE.nN (f:Bool) (k:IntKind):VE (.nl (.slice none 0 0)) (.ro f k []):=λe x h=>by rw [VR] at h;subst h;exact .inl ⟨rfl,none,0,rfl,λ_=>rfl⟩
theorem PE.last {ps:List SV} {x y:SV} (hx:bn x=true) (hy:bn y=true) (h:VE x y):PE (ps++[x]) (ps++[y]):=by
 have one:∀(e:Env) (us:List Value),PR e [x] us->PR e [y] us:=λe us g=>by
  obtain ⟨v,zs,g1,g2,rfl⟩:=(PR.cons hx).1 g
  exact (PR.cons hy).2 ⟨v,zs,h e v g1,g2,rfl⟩
 refine ⟨by rw [c8,c8];simp [av,wk hx,wk hy],λe us g=>?_⟩
 obtain ⟨y1,y2,rfl,g1,g2⟩:=PR.split g
 exact g1.append (one e y2 g2)
def Yn:Entry prog:=.val 114 _ func114 (by decide) rfl true 0 O1 λvs v new e=>by
 unfold O1 at e
 split at e
 ·simp only [No,aae,aac,kB] at e
  obtain ⟨rfl,rfl,⟨h1,h2,h3,h4⟩,h5,h6,h7,_⟩:=e
  exact CU h1 h5 h2 h6 h3 h7 h4
 ·rename_i u n k s p un u' n' k' s' p'
  simp only [No,aae,aac,kB] at e
  obtain ⟨rfl,rfl,⟨h1,h2,h3,h4⟩,h5,h6,h7,_⟩:=e
  exact ai.conv (CU h1 h5 h2 h6 h3 h7 h4) ⟨VE.refl _,VE.agg (PE.last (ps:=[.bool u',.int .i64 n',.ints .u8 32 k',.ints .u8 32 s',.ints .u8 32 p']) rfl rfl (VE.nN false .i64)),trivial⟩ trivial (VE.refl _) trivial
 ·cases e
def emT (a b:Bool):Nat->Option Bool:=λi=>if i=11 then some a else if i=18 then some b else none
def MB (a b:Bool):bO:=mk (P:=prog) [] [] (emT a b)
theorem uw (a b:Bool):ak prog (MB a b):=az _ aL.nil _ _
def O2:Code:=aP f117
abbrev aq (t:Nat->aj):Nat->List SV:=λi=>(t i).cells
def IC (N:Nat) (t:Nat->aj) (i:Int):St:=⟨slotsOf 19 [(0,.aJ false 99 N (aq t)),(5,.int .i64 i)],[],true⟩
def emF (b:Bool):St:=⟨slotsOf 19 [(4,.bool b)],[],true⟩
theorem MC (N:Nat) (t:Nat->aj) (x:Int):aA (ah [0,5] 0 ((aE prog (MB true true) 60 0 2 (atoms O2) ⟨aD f117.ntmps [.aJ false 99 N (aq t),.int .i64 x],[],true⟩).map λs=>(Exit.normal,s)))=some (.normal,(IC N t (i64.wrap (2*x))).t,[]):=by kernel_rfl
theorem ID (N:Nat) (t:Nat->aj) (x:Int):aZ (ah [0,5] 0 ((aE prog (MB true true) 60 0 2 (atoms O2) ⟨aD f117.ntmps [.aJ false 99 N (aq t),.int .i64 x],[],true⟩).map λs=>(Exit.normal,s)))=(true):=by kernel_rfl
theorem Sa (N:Nat) (t:Nat->aj) (i:Int):aA (ah [0,5] 0 (exec prog (MB true false) 60 0 (inner (inner (au 2 O2))) (IC N t i)))=some (.normal,(IC N t (i64.wrap (i+2))).t,[]):=by kernel_rfl
theorem MD (N:Nat) (t:Nat->aj) (i:Int):aZ (ah [0,5] 0 (exec prog (MB true false) 60 0 (inner (inner (au 2 O2))) (IC N t i)))=(aa (aa (aa (aa true (decide (i<((N:Nat):Int)))) (aX i N)) (true&&(decide (i.toNat<N)&&true))) !(t i.toNat).1):=by kernel_rfl
theorem Sb (N:Nat) (t:Nat->aj) (i:Int):aA (ah [4] 0 (exec prog (MB true true) 60 0 (inner (inner (au 2 O2))) (IC N t i)))=some (.ret,(emF false).t,[]):=by kernel_rfl
theorem ME (N:Nat) (t:Nat->aj) (i:Int):aZ (ah [4] 0 (exec prog (MB true true) 60 0 (inner (inner (au 2 O2))) (IC N t i)))=(aa (aa (aa (aa true (decide (i<((N:Nat):Int)))) (aX i N)) (true&&(decide (i.toNat<N)&&true))) (t i.toNat).1):=by kernel_rfl
theorem Sc (N:Nat) (t:Nat->aj) (i:Int):aA (ah [] 0 (exec prog (MB false true) 60 0 (inner (inner (au 2 O2))) (IC N t i)))=some (.exit 0,slotsOf 19 [],[]):=by kernel_rfl
theorem MF (N:Nat) (t:Nat->aj) (i:Int):aZ (ah [] 0 (exec prog (MB false true) 60 0 (inner (inner (au 2 O2))) (IC N t i)))=(aa true !decide (i<((N:Nat):Int))):=by kernel_rfl
def dy (N:Nat) (t:Nat->aj) (fr:Nat):Bool:=(List.range ((N+1-2*fr)/2)).all λj=>!(t (2*fr+2*j)).used
theorem IE {N fr:Nat} {t:Nat->aj} (h:N<=274877906944) (hf:fr<=274877906944):ai prog 117 [.aJ false 99 N (aq t),.int .i64 fr] [] (.bool (dy N t fr)) []:=by
 have key:=ai.scan (P:=prog) (args:=[.aJ false 99 N (aq t),.int .i64 fr]) (h:=[]) (h':=[]) func117 rfl 2 0 (λj:Nat=>IC N t ((2*fr+2*j:Nat):Int)) (λj=>!(t (2*fr+2*j)).used) ((N+1-2*fr)/2)
  (λx s' g=>aV.bk (uw true true) 60 2 _ 0 (by simp) (s1:=IC N t ((2*fr+2*0:Nat):Int)) _ (by have:=MC N t fr;rw [cg (by omega) (by omega)] at this;rw [show ((2*fr+2*0:Nat):Int)=2*(fr:Int) by omega];exact this) (ID N t fr) rfl (by decide) rfl g) (by decide) (by kernel_rfl)
  (λj hj hb _=>?_) (λi=>emF false) (λi=>[.bool false]) (λj hj hb _=>⟨?_,rfl,rfl⟩) (sE:=⟨slotsOf 19 [],[],true⟩) (uM:=emF true) (vE:=[.bool true]) (xE:=.ret) (λ_=>?_) (λ_=>⟨?_,.inl rfl,rfl,rfl⟩)
 ·rw [bX (g:=SV.bool) (vF:=λ_:Nat=>false) (vE:=true)] at key
  have hv:bP (λj=>!(t (2*fr+2*j)).used) ((N+1-2*fr)/2) (λ_=>false) true=dy N t fr:=by
   unfold bP dy;rw [<-cY];cases b6 _ _<;>rfl
  rw [hv] at key;exact key
 ·have e:=Sa N t ((2*fr+2*j:Nat):Int)
  rw [cg (by omega) (by omega)] at e
  refine Tr.aR (uw true false) 60 _ 0 (aaf _) (s':=IC N t ((2*fr+2*(j+1):Nat):Int)) _ (by rw [show ((2*fr+2*(j+1):Nat):Int)=((2*fr+2*j:Nat):Int)+2 by omega];exact e) (MD N t _) ?_
  rw [aaa,fo (by omega),bf (by omega),Me (show 2*fr+2*j<N by omega)]
  show aa true (!(t (2*fr+2*j)).used)=true
  rw [hb];rfl
 ·refine Tr.aR (uw true true) 60 _ 0 (aaf _) (s':=emF false) _ (Sb N t _) (ME N t _) ?_
  rw [aaa,fo (by omega),bf (by omega),Me (show 2*fr+2*j<N by omega)]
  show aa true (t (2*fr+2*j)).used=true
  rw [show (t (2*fr+2*j)).used=true by simpa using hb];rfl
 ·refine Tr.aR (uw false true) 60 _ 0 (aaf _) (s':=⟨slotsOf 19 [],[],true⟩) _ (Sc N t _) (MF N t _) ?_
  rw [fA (by omega)];rfl
 ·exact aV.rest (uw true true) 60 (by kernel_rfl) rfl
end Go.Proofs.YthlnlcijnoadcaaGreatDoor.Tr
end
section
namespace Go.Proofs.YthlnlcijnoadcaaGreatDoor.Tr
open Go Go.Sy
def bG (n x:Int):Nat->Int
 |0=>eD x n
 |j+1=>eD (bG n x j) n
def O3:List (FuncId×Func):=[(103,f103)]
theorem IF:aL prog O3:=aL.cons func103 (by decide) aL.nil
def btT (a b c d:Bool):Nat->Option Bool:=λi=>if i=17 then some a else if i=22 then some b else if i=31 then some c else if i=9 then some d else none
def Br (a b c d:Bool):bO:=mk (P:=prog) [r7,iL] O3 (btT a b c d)
theorem lD (a b c d:Bool):ak prog (Br a b c d):=az _ IF _ _
def btB:Code:=aP f163
def m7:Code:=aP f146
section
variable (N:Nat) (t:Nat->aj) (x i n:Int)
def UZ (r:Bool):List Blk:=[.b [.aJ false 99 N (aq t)],.b [.int .i64 x],.b [.int .i64 i],.b [.bool r],.b [.int .i64 (i64.wrap (2*i))],.b [.int .i64 n]]
def Yo:St:=⟨slotsOf 33 [(4,.ptr 0 0 0),(5,.ptr 1 0 0),(6,.ptr 2 0 0),(8,.ptr 3 0 0),(13,.fn (.func 146) [] [.ptr 4 0 0,.ptr 5 0 0])],UZ N t x i n false,true⟩
def x3 (r:Bool) (st:LoopState) (pd:Option Code) (l:Nat):List Blk:=UZ N t x i n r++[.g (some {JW (au 2 btB) (Yo N t x i n).t l with st:=st,iQ:=pd})]
def rA (r:Bool) (st:LoopState) (pd:Option Code) (l:Nat) (p:Int):St:=⟨slotsOf 17 [(0,.fn (.yield l) [] []),(2,.ptr 5 0 0),(4,.int .i64 p)],x3 N t x i n r st pd l,true⟩
end
theorem CV (N:Nat) (t:Nat->aj) (x i n:Int):aA (ah [4,5,6,8,13] 6 ((aE prog (Br true true true true) 60 0 2 (atoms btB) ⟨aD f163.ntmps [.aJ false 99 N (aq t),.int .i64 x,.int .i64 i,.int .i64 n],[],true⟩).map λs=>(Exit.normal,s)))=some (.normal,(Yo N t x i n).t,(Yo N t x i n).h):=by kernel_rfl
theorem zJ (N:Nat) (t:Nat->aj) (x i n:Int):aZ (ah [4,5,6,8,13] 6 ((aE prog (Br true true true true) 60 0 2 (atoms btB) ⟨aD f163.ntmps [.aJ false 99 N (aq t),.int .i64 x,.int .i64 i,.int .i64 n],[],true⟩).map λs=>(Exit.normal,s)))=(true):=by kernel_rfl
theorem MG (N:Nat) (t:Nat->aj) (x i n:Int) (l:Nat):aA (ah [0,2,4] 7 ((aE prog (Br true true true true) 60 7 1 (atoms m7) ⟨aD f146.ntmps [.fn (.yield l) [] [],.ptr 4 0 0,.ptr 5 0 0],x3 N t x i n false .ready none l,true⟩).map λs=>(Exit.normal,s)))=some (.normal,(rA N t x i n false .ready none l (eD (i64.wrap (2*i)) n)).t,x3 N t x i n false .ready none l):=by kernel_rfl
theorem IG (N:Nat) (t:Nat->aj) (x i n:Int) (l:Nat):aZ (ah [0,2,4] 7 ((aE prog (Br true true true true) 60 7 1 (atoms m7) ⟨aD f146.ntmps [.fn (.yield l) [] [],.ptr 4 0 0,.ptr 5 0 0],x3 N t x i n false .ready none l,true⟩).map λs=>(Exit.normal,s)))=(aa true (aa true (aQ (i64.wrap (2*i)) n))):=by kernel_rfl
theorem aeb (N:Nat) (t:Nat->aj) (x i n:Int) (l:Nat) (p:Int):aA (ah [0,2,4] 7 (exec prog (Br true true true true) 60 7 (inner (inner (au 1 m7))) (rA N t x i n false .ready none l p)))=some (.ret,(rA N t x i n true .done (some .ret) l p).t,x3 N t x i n true .done (some .ret) l):=by kernel_rfl
theorem Yp (N:Nat) (t:Nat->aj) (x i n:Int) (l:Nat) (p:Int):aZ (ah [0,2,4] 7 (exec prog (Br true true true true) 60 7 (inner (inner (au 1 m7))) (rA N t x i n false .ready none l p)))=(aa (aa true (decide (p>=0))) (aa (aa (aa (decide (l=l)) (decide (l=l))) (p==x)) (decide (l=l)))):=by kernel_rfl
theorem Yq (N:Nat) (t:Nat->aj) (x i n:Int) (l:Nat) (p:Int):aA (ah [0,2,4] 7 (exec prog (Br false true true true) 60 7 (inner (inner (au 1 m7))) (rA N t x i n false .ready none l p)))=some (.ret,(rA N t x i n false .done (some .ret) l p).t,x3 N t x i n false .done (some .ret) l):=by kernel_rfl
theorem Sd (N:Nat) (t:Nat->aj) (x i n:Int) (l:Nat) (p:Int):aZ (ah [0,2,4] 7 (exec prog (Br false true true true) 60 7 (inner (inner (au 1 m7))) (rA N t x i n false .ready none l p)))=(aa (aa true (decide (p>=0))) (aa (aa (aa (aa (aa (aa (aa (aa (aa (aa (decide (l=l)) (decide (l=l))) !p==x) (aX p N)) (true&&(decide (p.toNat<N)&&true))) (t p.toNat).1) (aX p N)) (true&&(decide (p.toNat<N)&&true))) (aa true (decide ((t p.toNat).un.length<=274877906944)))) !hasB (t p.toNat).un i) (decide (l=l)))):=by kernel_rfl
theorem Yr (N:Nat) (t:Nat->aj) (x i n:Int) (l:Nat) (p:Int):aA (ah [0,2,4] 7 (exec prog (Br false false true true) 60 7 (inner (inner (au 1 m7))) (rA N t x i n false .ready none l p)))=some (.normal,(rA N t x i n false .ready none l (eD p n)).t,x3 N t x i n false .ready none l):=by kernel_rfl
theorem Se (N:Nat) (t:Nat->aj) (x i n:Int) (l:Nat) (p:Int):aZ (ah [0,2,4] 7 (exec prog (Br false false true true) 60 7 (inner (inner (au 1 m7))) (rA N t x i n false .ready none l p)))=(aa (aa (aa true (decide (p>=0))) (aa (aa (aa (aa (aa (aa (decide (l=l)) (decide (l=l))) !p==x) (aX p N)) (true&&(decide (p.toNat<N)&&true))) !(t p.toNat).1) (decide (l=l)))) (aa true (aQ p n))):=by kernel_rfl
theorem Sf (N:Nat) (t:Nat->aj) (x i n:Int) (l:Nat) (p:Int):aA (ah [0,2,4] 7 (exec prog (Br false true false true) 60 7 (inner (inner (au 1 m7))) (rA N t x i n false .ready none l p)))=some (.normal,(rA N t x i n false .ready none l (eD p n)).t,x3 N t x i n false .ready none l):=by kernel_rfl
theorem MH (N:Nat) (t:Nat->aj) (x i n:Int) (l:Nat) (p:Int):aZ (ah [0,2,4] 7 (exec prog (Br false true false true) 60 7 (inner (inner (au 1 m7))) (rA N t x i n false .ready none l p)))=(aa (aa (aa true (decide (p>=0))) (aa (aa (aa (aa (aa (aa (aa (aa (aa (aa (decide (l=l)) (decide (l=l))) !p==x) (aX p N)) (true&&(decide (p.toNat<N)&&true))) (t p.toNat).1) (aX p N)) (true&&(decide (p.toNat<N)&&true))) (aa true (decide ((t p.toNat).un.length<=274877906944)))) !!hasB (t p.toNat).un i) (decide (l=l)))) (aa true (aQ p n))):=by kernel_rfl
theorem Sg (N:Nat) (t:Nat->aj) (x i n:Int) (l:Nat) (p:Int):aA (ah [0,2,4] 7 (exec prog (Br false true false false) 60 7 (inner (inner (au 1 m7))) (rA N t x i n false .ready none l p)))=some (.exit 0,(rA N t x i n false .ready none l p).t,x3 N t x i n false .ready none l):=by kernel_rfl
theorem MI (N:Nat) (t:Nat->aj) (x i n:Int) (l:Nat) (p:Int):aZ (ah [0,2,4] 7 (exec prog (Br false true false false) 60 7 (inner (inner (au 1 m7))) (rA N t x i n false .ready none l p)))=(aa true !decide (p>=0)):=by kernel_rfl
def bt:Nat->Nat
 |1=>0
 |2=>1
 |4=>2
 |8=>3
 |16=>4
 |_=>5
theorem Si:(sizes.all λn=>(List.range n).all λi=>((List.range (bt n)).all λj=>aQ (bG n ((2*i:Nat):Int) j) n&&decide (0<=bG n ((2*i:Nat):Int) j))&&decide (bG n ((2*i:Nat):Int) (bt n)=-1)&&aQ ((2*i:Nat):Int) n)=true:=by decide+kernel
theorem nP {n i:Nat} (hn:n∈sizes) (hi:i<n):(∀j,j<bt n->aQ (bG n ((2*i:Nat):Int) j) n=true/\0<=bG n ((2*i:Nat):Int) j)/\bG n ((2*i:Nat):Int) (bt n)=-1/\aQ ((2*i:Nat):Int) n=true:=by
 have h:=aah.1 (aah.1 Si n hn) i (aan.2 hi)
 simp only [aac,aab,aah,aan] at h
 exact ⟨h.1.1,h.1.2,h.2⟩
theorem bu {n:Nat} (hn:n∈sizes):1<=n/\n<=32:=by
 simp only [sizes,ad2,List.not_mem_nil,or_false] at hn
 omega
theorem fX {p:Int} {n:Nat} (h:aQ p n=true):0<=p/\p<((2*n-1:Nat):Int):=by
 obtain ⟨m,_,y,h1,rfl,h2⟩:=eR h
 omega
def A6 (t:Nat->aj) (x i n:Int) (j:Nat):Bool:=!(bG n (2*i) j==x)&&!((t (bG n (2*i) j).toNat).used&&!hasB (t (bG n (2*i) j).toNat).un i)
def pQ (t:Nat->aj) (x:Int) (i n:Nat):Bool:=bP (A6 t x i n) (bt n) (λj=>bG n (2*(i:Int)) j==x) false
section
variable {N:Nat} {t:Nat->aj} {x:Int} {i n:Nat}
theorem CW (hn:n∈sizes) (hi:i<n) (hN:N=2*n-1) (hu:∀k,k<N->(t k).un.length<=274877906944) (l:Nat) {j:Nat} (hj:j<bt n) (hb:A6 t x i n j=true):
  Tr prog none 7 (inner (inner (au 1 m7))) (rA N t x i n false .ready none l (bG n (2*(i:Int)) j)) .normal (rA N t x i n false .ready none l (bG n (2*(i:Int)) (j+1))):=by
 obtain ⟨h1,_,_⟩:=nP hn hi
 obtain ⟨g1,g2⟩:=h1 j hj
 rw [show ((2*i:Nat):Int)=2*(i:Int) by omega] at g1 g2
 obtain ⟨g3,g4⟩:=fX g1
 have hlt:(bG n (2*(i:Int)) j).toNat<N:=by omega
 unfold A6 at hb
 simp only [aac] at hb
 obtain ⟨hx,hub⟩:=hb
 cases gj:(t (bG n (2*(i:Int)) j).toNat).used with
 |false=>
  exact Tr.aR (lD false false true true) 60 _ 7 (aaf _) (s':=rA N t x i n false .ready none l (eD (bG n (2*(i:Int)) j) n)) _ (Yr N t x i n l _) (Se N t x i n l _) (by
   rw [Me g2,mK g3 (by omega),Me hlt,show (t (bG n (2*(i:Int)) j).toNat).1=false from gj,g1,hx,Me rfl];rfl)
 |true=>
  rw [gj] at hub
  have aec:(!!hasB (t (bG n (2*(i:Int)) j).toNat).un i)=true:=by simpa using hub
  exact Tr.aR (lD false true false true) 60 _ 7 (aaf _) (s':=rA N t x i n false .ready none l (eD (bG n (2*(i:Int)) j) n)) _ (Sf N t x i n l _) (MH N t x i n l _) (by
   rw [Me g2,mK g3 (by omega),Me hlt,show (t (bG n (2*(i:Int)) j).toNat).1=true from gj,g1,hx,Me rfl,aec,Me (hu _ hlt)];rfl)
theorem zK (hn:n∈sizes) (hi:i<n) (l:Nat):∀y s',aV prog none (x3 N t x i n false .ready none l).length ((atoms m7).drop 1) (rA N t x i n false .ready none l (bG n (2*(i:Int)) 0)) y s'->
  aV prog none (x3 N t x i n false .ready none l).length (atoms m7) ⟨aD f146.ntmps [.fn (.yield l) [] [],.ptr 4 0 0,.ptr 5 0 0],x3 N t x i n false .ready none l,true⟩ y s':=λy s' g=>by
 have h:=bu hn
 have e:=MG N t x i n l
 have e':=IG N t x i n l
 rw [cg (by omega) (by omega)] at e e'
 exact aV.bk (lD true true true true) 60 1 _ 7 (aaf 7) _ e e' (by have:=(nP hn hi).2.2;rw [show ((2*i:Nat):Int)=2*(i:Int) by omega] at this;rw [this];rfl) (by decide) rfl g
theorem Sj (hn:n∈sizes) (hi:i<n) (hN:N=2*n-1) (hu:∀k,k<N->(t k).un.length<=274877906944) (l:Nat) (ha:∀j,j<bt n->A6 t x i n j=true):
  ai prog 146 [.fn (.yield l) [] [],.ptr 4 0 0,.ptr 5 0 0] (x3 N t x i n false .ready none l) (.bC []) (x3 N t x i n false .ready none l):=by
 refine ai.toEnd (h:=x3 N t x i n false .ready none l) func146 rfl 1 0 (λj=>rA N t x i n false .ready none l (bG n (2*(i:Int)) j)) (bt n) (zK hn hi l) (by decide) (by kernel_rfl)
  (λj hj=>CW hn hi hN hu l hj (ha j hj)) (sE:=rA N t x i n false .ready none l (bG n (2*(i:Int)) (bt n))) (s':=rA N t x i n false .ready none l (bG n (2*(i:Int)) (bt n))) (x:=.normal) (v:=[]) ?_ ⟨rfl,rfl⟩ (.inr rfl) rfl
 have h1:=(nP hn hi).2.1
 rw [show ((2*i:Nat):Int)=2*(i:Int) by omega] at h1
 exact Tr.aR (lD false true false false) 60 _ 7 (aaf _) _ (Sg N t x i n l _) (MI N t x i n l _) (by rw [h1];rfl)
theorem Ys (hn:n∈sizes) (hi:i<n) (hN:N=2*n-1) (hu:∀k,k<N->(t k).un.length<=274877906944) (l:Nat) {j:Nat} (hj:j<bt n) (hb:A6 t x i n j=false) (ha:∀k,k<j->A6 t x i n k=true):
  ai prog 146 [.fn (.yield l) [] [],.ptr 4 0 0,.ptr 5 0 0] (x3 N t x i n false .ready none l) (.bC []) (x3 N t x i n (bG n (2*(i:Int)) j==x) .done (some .ret) l):=by
 obtain ⟨h1,_,_⟩:=nP hn hi
 obtain ⟨g1,g2⟩:=h1 j hj
 rw [show ((2*i:Nat):Int)=2*(i:Int) by omega] at g1 g2
 obtain ⟨g3,g4⟩:=fX g1
 have hlt:(bG n (2*(i:Int)) j).toNat<N:=by omega
 refine ai.Mn (h:=x3 N t x i n false .ready none l) func146 rfl 1 0 (λj=>rA N t x i n false .ready none l (bG n (2*(i:Int)) j)) j (zK hn hi l) (by decide) (by kernel_rfl)
  (λk hk=>CW hn hi hN hu l (by omega) (ha k hk)) (sF:=rA N t x i n (bG n (2*(i:Int)) j==x) .done (some .ret) l (bG n (2*(i:Int)) j)) (vF:=[]) ?_ rfl
 unfold A6 at hb
 cases hx:(bG n (2*(i:Int)) j==x) with
 |true=>
  exact Tr.aR (lD true true true true) 60 _ 7 (aaf _) _ (aeb N t x i n l _) (Yp N t x i n l _) (by rw [Me g2,hx,Me rfl];rfl)
 |false=>
  rw [hx] at hb
  have hb':(t (bG n (2*(i:Int)) j).toNat).used=true/\hasB (t (bG n (2*(i:Int)) j).toNat).un i=false:=by simpa using hb
  exact Tr.aR (lD false true true true) 60 _ 7 (aaf _) _ (Yq N t x i n l _) (Sd N t x i n l _) (by
   rw [Me g2,mK g3 (by omega),Me hlt,show (t (bG n (2*(i:Int)) j).toNat).1=true from hb'.1,hx,Me rfl,hb'.2,Me (hu _ hlt)];rfl)
theorem Bs (hn:n∈sizes) (hi:i<n) (hN:N=2*n-1) (hu:∀k,k<N->(t k).un.length<=274877906944):
  ai prog 163 [.aJ false 99 N (aq t),.int .i64 x,.int .i64 i,.int .i64 n] [] (.bool (pQ t x i n)) []:=by
 unfold pQ bP
 cases hq:b6 (A6 t x i n) (bt n) with
 |none=>
  have ha:=cS hq
  refine ai.yN (v:=.bool false) (h1:=UZ N t x i n false++[.gap]) [] ?_ rfl
  refine ai.rest (lD true true true true) 60 3 func163 rfl (λs' y h=>?_) (s:=⟨(Yo N t x i n).t,UZ N t x i n false++[.gap],true⟩) (p:=true) (by kernel_rfl) rfl
  refine aV.bk (lD true true true true) 60 2 _ 6 (aap _) _ (CV N t x i n) (zJ N t x i n) rfl (by decide) rfl ?_
  refine aV.item 2 (by decide) ?_ h
  exact Tr.w9 0 (by kernel_rfl) (f:=146) (first:=[]) (lO:=[.ptr 4 0 0,.ptr 5 0 0]) true func146 (by decide) rfl (by kernel_rfl) (λl=>Sj hn hi hN hu l ha)
   (λl=>⟨_,rfl,rfl,by simp [JW],rfl⟩) (λl=>rfl)
 |some j=>
  obtain ⟨hj,hb,ha⟩:=cX hq
  refine ai.yN (v:=.bool (bG n (2*(i:Int)) j==x)) (h1:=UZ N t x i n (bG n (2*(i:Int)) j==x)++[.gap]) [] ?_ rfl
  refine ai.mk func163 rfl (x:=.ret) (s:=⟨(Yo N t x i n).t,UZ N t x i n (bG n (2*(i:Int)) j==x)++[.gap],true⟩) (vs:=[.bool (bG n (2*(i:Int)) j==x)]) ?_ (.inl rfl) (by kernel_rfl)
  refine aV.bk (lD true true true true) 60 2 _ 6 (aap _) _ (CV N t x i n) (zJ N t x i n) rfl (by decide) rfl ?_
  refine aV.leave 2 (by decide) (by simp) ?_
  show Tr prog none 0 (.block 0 (inner (au 2 btB))) _ _ _
  refine Tr.b8 ?_ (by simp)
  exact Tr.range (q:=some .ret) true func146 (by decide) rfl (by kernel_rfl) (first:=[]) (λl=>Ys hn hi hN hu l hj hb ha)
   (λl=>⟨_,rfl,rfl,by simp [JW],rfl⟩) (λl=>rfl) rfl
end
end Go.Proofs.YthlnlcijnoadcaaGreatDoor.Tr
end
