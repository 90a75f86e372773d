/- This file proves the contract of path's turns: a leaf's way. Conditions: trees of 71 nodes at most. -/
import Derived.Test.YthlnlcijnoadcaaGreatDoorGPaP
import Derived.Test.YthlnlcijnoadcaaGreatDoorGTrW
noncomputable section
open Go.Proofs.Tryz
open Go.IntKind (i64 u8 u64 u32)
set_option linter.all false
set_option maxRecDepth 100000
namespace Go.Sy
open Go
section
variable {k:Nat}
theorem bE.K5 {t:List (Option SV)} {h:List Blk} {o o':Bool} (c:Nat) (hc:h[c]? =some (.b [.nl (.slice none 0 0)])) (z:Nat) (g:Nat->List SV) (ex:Bool):bE k ⟨t,h,o⟩ ⟨t,h.set c (.b [.bK h.length z 0 0 ex])++[.b [.rows z 0 g]],o'⟩:=
 λB e w t' _ hl R=>by
  have R2:Rel B e (h.set c (.b [.bK h.length z 0 0 ex])) w:=R.Gg hc (λp x _ _ ⟨cc,ty,q1,q2,q3,q4⟩=>by
   obtain ⟨v,zs,r1,r2,r3⟩:=q4
   have r1:v= .slice none 0 0:=r1
   refine ⟨cc,ty,q1,q2,q3,v,zs,.inl ⟨rfl,rfl,none,r1⟩,r2,r3⟩) (λq=>by simp [av,gS] at q)
  refine ⟨e,rfl,hl,?_⟩
  have:=R2.nothing (j:=(h.set c (.b [.bK h.length z 0 0 ex])).length) (ps:=[.rows z 0 g]) (.inl rfl) (by simp [av,gS])
  unfold bI at this
  rw [aaM rfl] at this
  exact this
end
end Go.Sy
namespace Go.Proofs.YthlnlcijnoadcaaGreatDoor.Pa
open Go Go.Sy Tr
def xq (c u:Bool) (l:List (Nat×Bool)) (ip:Bool:=false):bO:=mk (P:=prog) [tM c,QF u,xu,Oq,WA,zb,r7] [] (uT l) λi=>Nat.beq i 45&&ip
theorem ia (c u:Bool) (l:List (Nat×Bool)) (ip:Bool):ak prog (xq c u l ip):=az _ aL.nil _ _
def tuB:Code:=aP f65
def fK (T:Nat->Int×Int×Int):Nat->List SV:=λk=>[.int .i64 (T k).1,.int .i64 (T k).2.1,.int .i64 (T k).2.2]
def WB (N:Nat) (t:Nat->aj) (n x c:Int) (o:SV):List Blk:=[.b [.aJ false 99 N (aq t)],.b [o],.b [.int .i64 n],.b [.int .i64 c],.b [.int .i64 x],.b [.int .i64 n]]
def tuT:List (Option SV):=slotsOf 48 [(2,.ptr 0 0 0),(6,.ptr 1 0 0),(7,.ptr 2 0 0),(8,.ptr 3 0 0),(29,.fn (.func 146) [] [.ptr 4 0 0,.ptr 5 0 0])]
def GM (l:Nat):Lp:=JW (au 6 tuB) tuT l
def xY (N:Nat) (t:Nat->aj) (n x c:Int) (o:SV) (l:Nat) (r:List Blk):List Blk:=WB N t n x c o++[.g (some (GM l))]++r
def tV (N:Nat) (t:Nat->aj) (n x c:Int) (o:SV) (l:Nat) (r:List Blk) (p:Int):St:=⟨slotsOf 17 [(0,.fn (.yield l) [] []),(2,.ptr 5 0 0),(4,.int .i64 p)],xY N t n x c o l r,true⟩
abbrev cT:SV:=.nl (.slice none 0 0)
theorem acg (N:Nat) (t:Nat->aj) (i:Int):(aG prog (xq false true []) 60 f65 [.aJ false 99 N (aq t),.int .i64 i] []).map (λx=>(x.1,x.2.2))=some (.bC [cT,.iface 112 (.int .i64 3)],aa true (aa true ((bF N λi=>af (aq t i))&&decide (N<=71)&&aM N (ag λi=>af (aq t i))==false))):=by kernel_rfl
theorem ach (N:Nat) (t:Nat->aj) (i:Int):(aG prog (xq true false []) 60 f65 [.aJ false 99 N (aq t),.int .i64 i] []).map (λx=>(x.1,x.2.2))=some (.bC [cT,.iface 112 (.int .i64 9)],aa (aa true (aa true ((bF N λi=>af (aq t i))&&decide (N<=71)&&aM N (ag λi=>af (aq t i))==true))) (aa true ((bF N λi=>af (aq t i))&&rL N (ag λi=>af (aq t i)) i==false))):=by kernel_rfl
theorem aci (N:Nat) (t:Nat->aj) (i:Int):aA (ah [2,6,7,8,29] 6 ((aE prog (xq true true []) 60 0 6 (atoms tuB) ⟨aD f65.ntmps [.aJ false 99 N (aq t),.int .i64 i],[],true⟩).map λs=>(Exit.normal,s)))=some (.normal,tuT,WB N t (aO N) (i64.wrap (2*i)) (i64.wrap (2*i)) cT):=by kernel_rfl
theorem WC (N:Nat) (t:Nat->aj) (i:Int):aZ (ah [2,6,7,8,29] 6 ((aE prog (xq true true []) 60 0 6 (atoms tuB) ⟨aD f65.ntmps [.aJ false 99 N (aq t),.int .i64 i],[],true⟩).map λs=>(Exit.normal,s)))=(aa (aa true (aa true ((bF N λi=>af (aq t i))&&decide (N<=71)&&aM N (ag λi=>af (aq t i))==true))) (aa true ((bF N λi=>af (aq t i))&&rL N (ag λi=>af (aq t i)) i==true))):=by kernel_rfl
theorem acj (N:Nat) (t:Nat->aj) (n x c:Int) (l:Nat):aA (ah [0,2,4] 7 ((aE prog (xq true true []) 60 7 1 (atoms m7) ⟨aD f146.ntmps [.fn (.yield l) [] [],.ptr 4 0 0,.ptr 5 0 0],xY N t n x c cT l [],true⟩).map λs=>(Exit.normal,s)))=some (.normal,(tV N t n x c cT l [] (eD x n)).t,(tV N t n x c cT l [] (eD x n)).h):=by kernel_rfl
theorem WD (N:Nat) (t:Nat->aj) (n x c:Int) (l:Nat):aZ (ah [0,2,4] 7 ((aE prog (xq true true []) 60 7 1 (atoms m7) ⟨aD f146.ntmps [.fn (.yield l) [] [],.ptr 4 0 0,.ptr 5 0 0],xY N t n x c cT l [],true⟩).map λs=>(Exit.normal,s)))=(aa true (aa true (aQ x n))):=by kernel_rfl
theorem ack (N:Nat) (t:Nat->aj) (n x c:Int) (l m cc:Nat) (ex:Bool) (T:Nat->Int×Int×Int) (p:Int):aA (ah [0,2,4] 8 (exec prog (xq true true [(9,true),(38,false)]) 60 7 (inner (inner (au 1 m7))) (tV N t n x c (.bK 7 3 m cc ex) l [.b [.rows 3 m (fK T)]] p)))=some (.normal,(tV N t n x c cT l [] (eD p n)).t,xY N t n x p (.bK 7 3 m cc ex) l [.b [.rows 3 m (fK T)]]):=by kernel_rfl
theorem WE (N:Nat) (t:Nat->aj) (n x c:Int) (l m cc:Nat) (ex:Bool) (T:Nat->Int×Int×Int) (p:Int):aZ (ah [0,2,4] 8 (exec prog (xq true true [(9,true),(38,false)]) 60 7 (inner (inner (au 1 m7))) (tV N t n x c (.bK 7 3 m cc ex) l [.b [.rows 3 m (fK T)]] p)))=(aa (aa (aa true (decide (p>=0))) (aa (aa (aa (aa (aa (decide ((GM l).l=l)) (decide ((GM l).l=l))) (aa true (aQ c n))) (aa true ((bF N λi=>af (aq t i))&&decide (N<=71)))) !decide ((((rM N (ag λi=>af (aq t i)) (bZ c n)).length:Nat):Int)>0)) (decide (l=l)))) (aa true (aQ p n))):=by kernel_rfl
theorem acm (N:Nat) (t:Nat->aj) (n x c:Int) (l m cc:Nat) (T:Nat->Int×Int×Int) (p:Int):aA (ah [0,2,4] 8 (exec prog (xq true true [(9,true),(38,true)] true) 60 7 (inner (inner (au 1 m7))) (tV N t n x c (.bK 7 3 m (cc+1) true) l [.b [.rows 3 m (fK T)]] p)))=some (.normal,(tV N t n x c cT l [] (eD p n)).t,xY N t n x p (.bK 7 3 (m+1) (cc+1) true) l [.b [.rows 3 (m+1) λk=>br (Nat.ble (k+1) m) (fK T k) [.int .i64 p,.int .i64 c,.int .i64 (bZ c n)]]]):=by kernel_rfl
theorem WG (N:Nat) (t:Nat->aj) (n x c:Int) (l m cc:Nat) (T:Nat->Int×Int×Int) (p:Int):aZ (ah [0,2,4] 8 (exec prog (xq true true [(9,true),(38,true)] true) 60 7 (inner (inner (au 1 m7))) (tV N t n x c (.bK 7 3 m (cc+1) true) l [.b [.rows 3 m (fK T)]] p)))=(aa (aa (aa true (decide (p>=0))) (aa (aa (aa (aa (aa (aa (decide ((GM l).l=l)) (decide ((GM l).l=l))) (aa true (aQ c n))) (aa true ((bF N λi=>af (aq t i))&&decide (N<=71)))) (decide ((((rM N (ag λi=>af (aq t i)) (bZ c n)).length:Nat):Int)>0))) (aa (aa true (decide (m<=m))) (decide (m+1<=cc+1)))) (decide (l=l)))) (aa true (aQ p n))):=by kernel_rfl
theorem acn (N:Nat) (t:Nat->aj) (n x c:Int) (l m cc:Nat) (T:Nat->Int×Int×Int) (p:Int):aA (ah [0,2,4] 10 (exec prog (xq true true [(9,true),(38,true)] false) 60 7 (inner (inner (au 1 m7))) (tV N t n x c (.bK 7 3 m (cc+1) true) l [.b [.rows 3 m (fK T)]] p)))=some (.normal,(tV N t n x c cT l [] (eD p n)).t,xY N t n x p (.bK 9 3 (m+1) (m+1) false) l [.b [.rows 3 m (fK T)],.b [.int .i64 p,.int .i64 c,.int .i64 (bZ c n)],.b [.rows 3 (m+1) λk=>br (Nat.ble (k+1) m) (fK T k) [.int .i64 p,.int .i64 c,.int .i64 (bZ c n)]]]):=by kernel_rfl
theorem WH (N:Nat) (t:Nat->aj) (n x c:Int) (l m cc:Nat) (T:Nat->Int×Int×Int) (p:Int):aZ (ah [0,2,4] 10 (exec prog (xq true true [(9,true),(38,true)] false) 60 7 (inner (inner (au 1 m7))) (tV N t n x c (.bK 7 3 m (cc+1) true) l [.b [.rows 3 m (fK T)]] p)))=(aa (aa (aa true (decide (p>=0))) (aa (aa (aa (aa (aa (aa (decide ((GM l).l=l)) (decide ((GM l).l=l))) (aa true (aQ c n))) (aa true ((bF N λi=>af (aq t i))&&decide (N<=71)))) (decide ((((rM N (ag λi=>af (aq t i)) (bZ c n)).length:Nat):Int)>0))) (aa (aa true (decide (m<=m))) (aa (decide (cc+1<m+1)) (decide (m+1<=2^38))))) (decide (l=l)))) (aa true (aQ p n))):=by kernel_rfl
theorem aco (N:Nat) (t:Nat->aj) (n x c:Int) (l:Nat) (T:Nat->Int×Int×Int) (p:Int):aA (ah [0,2,4] 10 (exec prog (xq true true [(9,true),(38,true)] false) 60 7 (inner (inner (au 1 m7))) (tV N t n x c (.bK 7 3 0 0 true) l [.b [.rows 3 0 (fK T)]] p)))=some (.normal,(tV N t n x c cT l [] (eD p n)).t,xY N t n x p (.sl 9 0 0 3 1 1 false true) l [.b [.rows 3 0 (fK T)],.b [.int .i64 p,.int .i64 c,.int .i64 (bZ c n)],.b [.int .i64 p,.int .i64 c,.int .i64 (bZ c n)]]):=by kernel_rfl
theorem WI (N:Nat) (t:Nat->aj) (n x c:Int) (l:Nat) (T:Nat->Int×Int×Int) (p:Int):aZ (ah [0,2,4] 10 (exec prog (xq true true [(9,true),(38,true)] false) 60 7 (inner (inner (au 1 m7))) (tV N t n x c (.bK 7 3 0 0 true) l [.b [.rows 3 0 (fK T)]] p)))=(aa (aa (aa true (decide (p>=0))) (aa (aa (aa (aa (aa (decide ((GM l).l=l)) (decide ((GM l).l=l))) (aa true (aQ c n))) (aa true ((bF N λi=>af (aq t i))&&decide (N<=71)))) (decide ((((rM N (ag λi=>af (aq t i)) (bZ c n)).length:Nat):Int)>0))) (decide (l=l)))) (aa true (aQ p n))):=by kernel_rfl
theorem acp (N:Nat) (t:Nat->aj) (n x c:Int) (l m cc:Nat) (ex:Bool) (T:Nat->Int×Int×Int) (p:Int):aA (ah [0,2,4] 8 (exec prog (xq true true [(9,false)]) 60 7 (inner (inner (au 1 m7))) (tV N t n x c (.bK 7 3 m cc ex) l [.b [.rows 3 m (fK T)]] p)))=some (.exit 0,(tV N t n x c cT l [] p).t,xY N t n x c (.bK 7 3 m cc ex) l [.b [.rows 3 m (fK T)]]):=by kernel_rfl
theorem WJ (N:Nat) (t:Nat->aj) (n x c:Int) (l m cc:Nat) (ex:Bool) (T:Nat->Int×Int×Int) (p:Int):aZ (ah [0,2,4] 8 (exec prog (xq true true [(9,false)]) 60 7 (inner (inner (au 1 m7))) (tV N t n x c (.bK 7 3 m cc ex) l [.b [.rows 3 m (fK T)]] p)))=(aa true !decide (p>=0)):=by kernel_rfl
def xw (m:Nat) (T:Nat->Int×Int×Int) (w:Int×Int×Int):Nat->Int×Int×Int:=λk=>bif Nat.ble (k+1) m then T k else w
theorem Ci (m:Nat) (T:Nat->Int×Int×Int) (p c s:Int):(λk=>br (Nat.ble (k+1) m) (fK T k) [.int .i64 p,.int .i64 c,.int .i64 s])=fK (xw m T (p,c,s)):=by
 funext k
 simp only [xw,fK]
 cases Nat.ble (k+1) m<;>rfl
def DZ (N:Nat) (t:Nat->aj) (n x:Int) (k:Nat):Bool:=decide ((((rM N t (bZ (de n x k) n)).length:Nat):Int)>0)
def bT (N:Nat) (t:Nat->aj) (n x:Int):Nat->Nat×(Nat->Int×Int×Int)
 |0=>(0,λ_=>(0,0,0))
 |k+1=>bif DZ N t n x k then ((bT N t n x k).1+1,xw (bT N t n x k).1 (bT N t n x k).2 (bG n x k,de n x k,bZ (de n x k) n)) else bT N t n x k
def Ot (N:Nat) (t:Nat->aj) (n x c:Int) (l:Nat) (q:Nat×(Nat->Int×Int×Int)) (p:Int):St:=tV N t n x c (.bK 7 3 q.1 q.1 false) l [.b [.rows 3 q.1 (fK q.2)]] p
theorem fzA {e e':Env} {z len cap:Nat} {ex:Bool} {g:Nat->List SV} {b x:Value} (H:∀y,VR e (.bK 0 z len cap ex) y->VR e' (.aJ true z len g) y) (hv:VR e (.bC [.bK 0 z len cap ex,.nl b]) x):VR e' (.bC [.aJ true z len g,.nl b]) x:=by
 obtain ⟨ys,⟨y,zs,h1,⟨y2,zs2,h2,h3,rfl⟩,rfl⟩,rfl⟩:=hv
 exact ⟨_,⟨y,_,H y h1,⟨y2,zs2,h2,h3,rfl⟩,rfl⟩,rfl⟩
theorem VE.QG (b z len cap c:Nat) (ex:Bool) (h:c<=cap):VE (.bK b z len cap ex) (.bK b z len c false):=λe x hx=>by
 rcases hx with h1|⟨p,c',a,h1,h2,h3,h4,h5,h6,h7⟩
 ·exact .inl ⟨h1.1,by omega,h1.2.2⟩
 ·exact .inr ⟨p,c',a,h1,h2,h3,abi h h4,(by simp),h6,h7⟩
section
variable {N m j:Nat} {t:Nat->aj}
theorem Cj (n x p:Int) (l m0 m1 a b:Nat) (ex:Bool) (ps:List SV) (T T':Nat->Int×Int×Int) (t0:List (Option SV)) (h0:UR 7 9 t0=t0) (h1:t0.all (λo=>match o with|some v=>cC (List.range 8) v|none=>true)=true):
  bE 7 ⟨t0,xY N t n x p (.bK 9 3 a b ex) l [.b [.rows 3 m0 (fK T)],.b ps,.b [.rows 3 m1 (fK T')]],true⟩ ⟨t0,xY N t n x p (.bK 7 3 a b ex) l [.b [.rows 3 m1 (fK T')]],true⟩:=by
 have e:=bE.swap (k:=7) (t:=t0) (h:=xY N t n x p (.bK 9 3 a b ex) l [.b [.rows 3 m0 (fK T)],.b ps,.b [.rows 3 m1 (fK T')]]) (o:=true) (o':=true) 7 9 (by decide) (by decide) rfl rfl rfl
 rw [h0] at e
 refine e.trans (bE.dn (by decide:7<=8) ?_)
 unfold St.dn
 rw [aaM]
 ·rfl
 ·rw [aac];exact ⟨h1,rfl⟩
theorem K6 (hT:cF N t) (hm:m∈sizes) (hj:j<m) (l:Nat) {k:Nat} (hk:k<bt m):
  Tr prog none 7 (inner (inner (au 1 m7))) (Ot N t m (2*(j:Int)) (de m (2*(j:Int)) k) l (bT N t m (2*(j:Int)) k) (bG m (2*(j:Int)) k)) .normal (Ot N t m (2*(j:Int)) (de m (2*(j:Int)) (k+1)) l (bT N t m (2*(j:Int)) (k+1)) (bG m (2*(j:Int)) (k+1))):=by
 obtain ⟨u1,u2,u3⟩:=nP hm hj
 rw [show ((2*j:Nat):Int)=2*(j:Int) by omega] at u1 u2 u3
 obtain ⟨g1,g2⟩:=u1 k hk
 have hc:aQ (de m (2*(j:Int)) k) m=true:=by
  cases k with
  |zero=>exact u3
  |succ k=>exact (u1 k (by omega)).1
 have hok:bF N (λi=>af (aq t i))=true:=bq hT
 have hle:=hT.le
 have q1:(rM N (ag λi=>af (aq t i)) (bZ (de m (2*(j:Int)) k) m))=rM N t (bZ (de m (2*(j:Int)) k) m):=rfl
 have q2:decide ((GM l).l=l)=true:=Me rfl
 have hq:bT N t m (2*(j:Int)) (k+1)=bif DZ N t m (2*(j:Int)) k then ((bT N t m (2*(j:Int)) k).1+1,xw (bT N t m (2*(j:Int)) k).1 (bT N t m (2*(j:Int)) k).2 (bG m (2*(j:Int)) k,de m (2*(j:Int)) k,bZ (de m (2*(j:Int)) k) m)) else bT N t m (2*(j:Int)) k:=rfl
 have acq:(bT N t m (2*(j:Int)) k).1<=2^37:=by
  have:∀i,(bT N t m (2*(j:Int)) i).1<=i:=λi=>by
   induction i with
   |zero=>exact aaf _
   |succ i ih=>
    show (bif DZ N t m (2*(j:Int)) i then _ else _:Nat×(Nat->Int×Int×Int)).1<=_
    cases DZ N t m (2*(j:Int)) i with
    |true=>exact Nat.succ_le_succ ih
    |false=>exact Nat.le_succ_of_le ih
  have h1:=this k
  have:bt m<=5:=by unfold bt;split<;>omega
  omega
 rw [hq]
 show Tr _ _ _ _ _ _ (Ot N t m (2*(j:Int)) (bG m (2*(j:Int)) k) l _ (eD (bG m (2*(j:Int)) k) m))
 cases hkp:DZ N t m (2*(j:Int)) k with
 |false=>
  unfold DZ at hkp
  exact Tr.aR (ia _ _ _ _) 60 _ 8 (by decide:7<=8) (s':=Ot N t m (2*(j:Int)) (bG m (2*(j:Int)) k) l (bT N t m (2*(j:Int)) k) (eD (bG m (2*(j:Int)) k) m)) _ (ack N t m (2*(j:Int)) _ l _ _ false _ _) (WE N t m (2*(j:Int)) _ l _ _ false _ _) (by
   rw [Me g2,q2,hc,hok,Me hle,q1,hkp,g1,Me (Eq.refl l)];rfl)
 |true=>
  unfold DZ at hkp
  generalize bT N t m (2*(j:Int)) k=q at*
  obtain ⟨M,T⟩:=q
  refine Tr.acr (b:=1) (pre:=[]) (post:=[]) (b':=7) (z:=3) (len:=M) (cap:=M) rfl λcc rX=>?_
  cases cc with
  |zero=>
   obtain rfl:M=0:=by omega
   refine Tr.post (Tr.post (Tr.aR (ia _ _ _ _) 60 _ 10 (by decide:7<=10) (s':=⟨(tV N t m (2*(j:Int)) 0 cT l [] (eD (bG m (2*(j:Int)) k) m)).t,xY N t m (2*(j:Int)) (bG m (2*(j:Int)) k) (.sl 9 0 0 3 1 1 false true) l [.b [.rows 3 0 (fK T)],.b [.int .i64 (bG m (2*(j:Int)) k),.int .i64 (de m (2*(j:Int)) k),.int .i64 (bZ (de m (2*(j:Int)) k) m)],.b [.int .i64 (bG m (2*(j:Int)) k),.int .i64 (de m (2*(j:Int)) k),.int .i64 (bZ (de m (2*(j:Int)) k) m)]],true⟩) _ (aco N t m (2*(j:Int)) _ l T _) (WI N t m (2*(j:Int)) _ l T _) (by
    rw [Me g2,q2,hc,hok,Me hle,q1,hkp,g1,Me (Eq.refl l)];rfl)) (bE.vc (h':=xY N t m (2*(j:Int)) (bG m (2*(j:Int)) k) (.bK 9 3 1 1 false) l [.b [.rows 3 0 (fK T)],.b [.int .i64 (bG m (2*(j:Int)) k),.int .i64 (de m (2*(j:Int)) k),.int .i64 (bZ (de m (2*(j:Int)) k) m)],.b [.rows 3 1 (fK (xw 0 T (bG m (2*(j:Int)) k,de m (2*(j:Int)) k,bZ (de m (2*(j:Int)) k) m)))]]) (o':=true) ?_)) (Cj m (2*(j:Int)) _ l 0 1 1 1 false _ T _ _ rfl rfl)
   exact ⟨PE.refl _,⟨rfl,λe ys ⟨v,zs,a,b,c⟩=>⟨v,zs,VE.mb 9 3 1 1 false true e v a,b,c⟩⟩,PE.refl _,PE.refl _,PE.refl _,PE.refl _,rfl,PE.refl _,PE.refl _,PE.one 3 rfl rfl (PE.refl _),trivial⟩
  |succ cc=>
   by_cases hfit:M+1<=cc+1
   ·have e:=acm N t m (2*(j:Int)) (de m (2*(j:Int)) k) l M cc T (bG m (2*(j:Int)) k)
    rw [Ci] at e
    refine Tr.post (Tr.aR (ia _ _ _ _) 60 _ 8 (by decide:7<=8) (s':=⟨(tV N t m (2*(j:Int)) 0 cT l [] (eD (bG m (2*(j:Int)) k) m)).t,xY N t m (2*(j:Int)) (bG m (2*(j:Int)) k) (.bK 7 3 (M+1) (cc+1) true) l [.b [.rows 3 (M+1) (fK (xw M T (bG m (2*(j:Int)) k,de m (2*(j:Int)) k,bZ (de m (2*(j:Int)) k) m)))]],true⟩) _ e (WG N t m (2*(j:Int)) _ l M cc T _) (by
     rw [Me g2,q2,hc,hok,Me hle,q1,hkp,g1,Me (Eq.refl l),Me (aaf M),Me hfit];rfl)) (bE.vc ?_)
    exact ⟨PE.refl _,⟨rfl,λe ys ⟨v,zs,a,b,c⟩=>⟨v,zs,VE.QG 7 3 (M+1) (cc+1) (M+1) true hfit e v a,b,c⟩⟩,PE.refl _,PE.refl _,PE.refl _,PE.refl _,rfl,PE.refl _,trivial⟩
   ·have e:=acn N t m (2*(j:Int)) (de m (2*(j:Int)) k) l M cc T (bG m (2*(j:Int)) k)
    rw [Ci] at e
    exact Tr.post (Tr.aR (ia _ _ _ _) 60 _ 10 (by decide:7<=10) (s':=⟨(tV N t m (2*(j:Int)) 0 cT l [] (eD (bG m (2*(j:Int)) k) m)).t,xY N t m (2*(j:Int)) (bG m (2*(j:Int)) k) (.bK 9 3 (M+1) (M+1) false) l [.b [.rows 3 M (fK T)],.b [.int .i64 (bG m (2*(j:Int)) k),.int .i64 (de m (2*(j:Int)) k),.int .i64 (bZ (de m (2*(j:Int)) k) m)],.b [.rows 3 (M+1) (fK (xw M T (bG m (2*(j:Int)) k,de m (2*(j:Int)) k,bZ (de m (2*(j:Int)) k) m)))]],true⟩) _ e (WH N t m (2*(j:Int)) _ l M cc T _) (by
     rw [Me g2,q2,hc,hok,Me hle,q1,hkp,g1,Me (Eq.refl l),Me (aaf M),Me (show cc+1<M+1 by omega),Me (show M+1<=2^38 by have:=acq;simp only at this;omega)];rfl)) (Cj m (2*(j:Int)) _ l M (M+1) (M+1) (M+1) false _ T _ _ rfl rfl)
theorem QH (hT:cF N t) (hm:m∈sizes) (hj:j<m) (l:Nat):
  ai prog 146 [.fn (.yield l) [] [],.ptr 4 0 0,.ptr 5 0 0] (xY N t m (2*(j:Int)) (2*(j:Int)) cT l []) (.bC []) (Ot N t m (2*(j:Int)) (de m (2*(j:Int)) (bt m)) l (bT N t m (2*(j:Int)) (bt m)) 0).h:=by
 obtain ⟨u1,u2,u3⟩:=nP hm hj
 rw [show ((2*j:Nat):Int)=2*(j:Int) by omega] at u1 u2 u3
 refine ai.toEnd (h:=xY N t m (2*(j:Int)) (2*(j:Int)) cT l []) func146 rfl 1 0 (λk=>Ot N t m (2*(j:Int)) (de m (2*(j:Int)) k) l (bT N t m (2*(j:Int)) k) (bG m (2*(j:Int)) k)) (bt m)
  (λy s' g=>aV.bk (ia _ _ _ _) 60 1 _ 7 (aaf 7) (s1:=tV N t m (2*(j:Int)) (2*(j:Int)) cT l [] (eD (2*(j:Int)) m)) _ (acj N t m (2*(j:Int)) (2*(j:Int)) l) (WD N t m (2*(j:Int)) (2*(j:Int)) l) (by rw [u3];rfl) (by decide) rfl (aV.pre g (bE.K5 (t:=(tV N t m (2*(j:Int)) (2*(j:Int)) cT l [] (eD (2*(j:Int)) m)).t) (h:=xY N t m (2*(j:Int)) (2*(j:Int)) cT l []) 1 rfl 3 (fK λ_=>(0,0,0)) false) (by intro q;cases q))) (by decide) (by kernel_rfl)
  (λk hk=>K6 hT hm hj l hk) (sE:=Ot N t m (2*(j:Int)) (de m (2*(j:Int)) (bt m)) l (bT N t m (2*(j:Int)) (bt m)) (bG m (2*(j:Int)) (bt m))) (s':=Ot N t m (2*(j:Int)) (de m (2*(j:Int)) (bt m)) l (bT N t m (2*(j:Int)) (bt m)) (bG m (2*(j:Int)) (bt m))) (x:=.normal) (v:=[]) ?_ ⟨rfl,rfl⟩ (.inr rfl) rfl
 exact Tr.aR (ia _ _ _ _) 60 _ 8 (by decide:7<=8) _ (acp N t m (2*(j:Int)) _ l _ _ false _ _) (WJ N t m (2*(j:Int)) _ l _ _ false _ _) (by rw [u2];rfl)
theorem GN (hT:cF N t) (hc:aM N t=true) (hu:rL N t j=true) (hm:m∈sizes) (hj:j<m) (hv:aO N=m):
  ai prog 65 [.aJ false 99 N (aq t),.int .i64 j] [] (.bC [.aJ true 3 (bT N t m (2*(j:Int)) (bt m)).1 (fK (bT N t m (2*(j:Int)) (bt m)).2),.nl .nilIface]) []:=by
 have hs:=bu hm
 have hok:bF N (λi=>af (aq t i))=true:=bq hT
 have ht:(ag λi=>af (aq t i))=t:=rfl
 have e:=aci N t j
 rw [hv,cg (by omega) (by omega)] at e
 refine ai.xx (v:=.bC [.bK 0 3 (bT N t m (2*(j:Int)) (bt m)).1 (bT N t m (2*(j:Int)) (bt m)).1 false,.nl .nilIface]) (aaf _) (λe e' x _ _ H hv=>fzA H hv) ?_
 refine ai.yN (v:=.bC [.bK 7 3 (bT N t m (2*(j:Int)) (bt m)).1 (bT N t m (2*(j:Int)) (bt m)).1 false,.nl .nilIface]) (h1:=WB N t m (2*(j:Int)) (de m (2*(j:Int)) (bt m)) (.bK 7 3 (bT N t m (2*(j:Int)) (bt m)).1 (bT N t m (2*(j:Int)) (bt m)).1 false)++[.gap,.b [.rows 3 (bT N t m (2*(j:Int)) (bt m)).1 (fK (bT N t m (2*(j:Int)) (bt m)).2)]]) [7] ?_ rfl
 refine ai.rest (ia true true [] false) 60 7 func65 rfl (λs' y h=>?_) (s:=⟨tuT,WB N t m (2*(j:Int)) (de m (2*(j:Int)) (bt m)) (.bK 7 3 (bT N t m (2*(j:Int)) (bt m)).1 (bT N t m (2*(j:Int)) (bt m)).1 false)++[.gap,.b [.rows 3 (bT N t m (2*(j:Int)) (bt m)).1 (fK (bT N t m (2*(j:Int)) (bt m)).2)]],true⟩) (p:=true) (by kernel_rfl) rfl
 refine aV.bk (ia true true [] false) 60 6 _ 6 (aap _) (s1:=⟨tuT,WB N t m (2*(j:Int)) (2*(j:Int)) cT,true⟩) _ e (WC N t j) (by rw [ht,hok,Me hT.le,hc,hu];rfl) (by decide) rfl ?_
 refine aV.item 6 (by decide) ?_ h
 exact Tr.w9 1 (by kernel_rfl) (f:=146) (first:=[]) (lO:=[.ptr 4 0 0,.ptr 5 0 0]) true func146 (by decide) rfl (by kernel_rfl) (λl=>QH hT hm hj l)
  (λl=>⟨_,rfl,rfl,by simp [GM,JW],rfl⟩) (λl=>rfl)
end
end Go.Proofs.YthlnlcijnoadcaaGreatDoor.Pa
