/- This file proves the contract of the reference's Good. Conditions: a tree of 71 nodes at most. -/
import Derived.Test.YthlnlcijnoadcaaGreatDoorGTsF
noncomputable section
open Go.Proofs.Tryz
open Go.IntKind (i64 u8 u64 u32)
set_option linter.all false
set_option maxRecDepth 100000
namespace Go.Proofs.YthlnlcijnoadcaaGreatDoor.Tr
open Go Go.Sy
def uc:Entry prog:=.val 44 _ func44 (by decide) rfl false 0 (λvs=>match vs with
 | [.int .i64 n]=>some (.int .i64 (aO n),[],decide (0<=n)&&decide (n<72))
 |_=>none) λvs v new e=>by
 split at e
 ·simp only [No,aae,aac,aab] at e
  obtain ⟨rfl,rfl,h1,h2⟩:=e
  obtain ⟨m,rfl⟩:=aaB h1
  exact Bw (by omega)
 ·cases e
def A0:Entry prog:=.val 57 _ func57 (by decide) rfl true 0 (λvs=>match vs with
 | [.aJ false 99 N g,.int .i64 fr]=>some (.bool (!dy N (ag g) fr.toNat),[],bF N g&&decide (N<=71)&&decide (0<=fr)&&decide (fr<=71))
 |_=>none) λvs v new e=>by
 split at e
 ·simp only [No,aae,aac,aab] at e
  obtain ⟨rfl,rfl,⟨⟨h1,h2⟩,h3⟩,h4⟩:=e
  obtain ⟨y,rfl⟩:=aaB h3
  exact ai.conv (ua (t:=ag _) (fr:=y) (by omega) (by omega)) ⟨VE.tree h1,VE.refl _,trivial⟩ trivial (VE.refl _) trivial
 ·cases e
def gb (a:aj):Bool:=jH a.key a.sign a.par a.un
def wg:Entry prog:=.val 56 _ func56 (by decide) rfl true 0 (λvs=>match vs with
 | [.agg l,.agg l']=>match I7 l,I7 l' with
  |some a,some b=>some (.bool (uO a b),[],gb a&&gb b)
  |_,_=>none
 |_=>none) λvs v new e=>by
 split at e
 ·split at e
  ·rename_i a b ha hb
   simp only [No,aae,aac] at e
   obtain ⟨rfl,rfl,h1,h2⟩:=e
   exact ai.conv (zQ h1 h2) ⟨VE.agg (xQ ha),VE.agg (xQ hb),trivial⟩ trivial (VE.refl _) trivial
  ·cases e
 ·cases e
def E7 (a:aj):Bool:=DM a.used a.name a.un
def TB:Entry prog:=.val 59 _ func59 (by decide) rfl true 0 (λvs=>match vs with
 | [.agg l]=>match I7 l with
  |some a=>some (.bool (E7 a),[],true)
  |none=>none
 |_=>none) λvs v new e=>by
 split at e
 ·split at e
  ·rename_i a ha
   simp only [No,aae] at e
   obtain ⟨rfl,rfl,_⟩:=e
   exact ai.conv (Jn a) ⟨VE.agg (xQ ha),trivial⟩ trivial (VE.refl _) trivial
  ·cases e
 ·cases e
def Nv:Entry prog:=.val 58 _ func58 (by decide) rfl true 0 (λvs=>match vs with
 | [.aJ false 99 N g,.int .i64 x,.int .i64 n]=>some (.bool (gH N (ag g) x n.toNat),[],bF N g&&mN N x n)
 |_=>none) λvs v new e=>by
 split at e
 ·simp only [No,aae,aac] at e
  obtain ⟨rfl,rfl,h1,h2⟩:=e
  obtain ⟨m,hm,rfl,hN,hx⟩:=uz h2
  exact ai.conv (EL (t:=ag _) (cF.of h1 (by have:=bu hm;omega)) hm hN hx) ⟨VE.tree h1,VE.refl _,VE.refl _,trivial⟩ trivial (VE.refl _) trivial
 ·cases e
def nE (l:List (Nat×Bool)):bO:=mk (P:=prog) [uc,A0,wg,TB,Nv] [] (uT l)
theorem eg (l:List (Nat×Bool)):ak prog (nE l):=az _ aL.nil _ _
def rgB:Code:=aP f19
def uE:Code:=inner (inner (au 5 rgB))
def Nw:Code:=inner (au 2 uE)
def Pf:Code:=Yy (au 5 Nw)
def J5:Code:=inner (inner (au 3 Pf))
def Jq (N:Nat) (t:Nat->aj) (n x:Int) (l:List (Nat×SV)):St:=⟨slotsOf 95 ([(0,.aJ false 99 N (aq t)),(3,.int .i64 n),(4,.int .i64 x)]++l),[],true⟩
def kE (N:Nat) (t:Nat->aj) (n x:Int):St:=Jq N t n x []
def wj (N:Nat) (t:Nat->aj) (n x y:Int):St:=Jq N t n x [(5,.int .i64 y)]
theorem aeG (N:Nat) (t:Nat->aj):(aG prog (nE [(10,true)]) 60 f19 [.aJ false 99 N (aq t)] []).map (λx=>(x.1,x.2.2))=some (.bool false,aa (aa true (aa true (true&&decide (((N:Nat):Int)<72)))) (aO ((N:Nat):Int)==0)):=by kernel_rfl
theorem aeH (N:Nat) (t:Nat->aj):(aG prog (nE [(10,false),(15,false)]) 60 f19 [.aJ false 99 N (aq t)] []).map (λx=>(x.1,x.2.2))=some (.bool false,aa (aa (aa (aa true (aa true (true&&decide (((N:Nat):Int)<72)))) !aO ((N:Nat):Int)==0) (aa true ((bF N λi=>af (aq t i))&&decide (N<=71)&&decide (0<=i64.wrap ((aO ((N:Nat):Int)).tdiv 2))&&decide (i64.wrap ((aO ((N:Nat):Int)).tdiv 2)<=71)))) !!dy N (ag λi=>af (aq t i)) (i64.wrap ((aO ((N:Nat):Int)).tdiv 2)).toNat):=by kernel_rfl
theorem Nx (N:Nat) (t:Nat->aj):aA (ah [0,3,4] 0 ((aE prog (nE [(10,false),(15,true)]) 60 0 5 (atoms rgB) ⟨aD f19.ntmps [.aJ false 99 N (aq t)],[],true⟩).map λs=>(Exit.normal,s)))=some (.normal,(kE N t (aO N) 0).t,[]):=by kernel_rfl
theorem Jr (N:Nat) (t:Nat->aj):aZ (ah [0,3,4] 0 ((aE prog (nE [(10,false),(15,true)]) 60 0 5 (atoms rgB) ⟨aD f19.ntmps [.aJ false 99 N (aq t)],[],true⟩).map λs=>(Exit.normal,s)))=(aa (aa (aa (aa true (aa true (true&&decide (((N:Nat):Int)<72)))) !aO ((N:Nat):Int)==0) (aa true ((bF N λi=>af (aq t i))&&decide (N<=71)&&decide (0<=i64.wrap ((aO ((N:Nat):Int)).tdiv 2))&&decide (i64.wrap ((aO ((N:Nat):Int)).tdiv 2)<=71)))) !dy N (ag λi=>af (aq t i)) (i64.wrap ((aO ((N:Nat):Int)).tdiv 2)).toNat):=by kernel_rfl
theorem TC (N:Nat) (t:Nat->aj) (n x:Int):aA (ah [] 0 (exec prog (nE [(21,false)]) 60 0 uE (kE N t n x)))=some (.exit 0,slotsOf 95 [],[]):=by kernel_rfl
theorem Ny (N:Nat) (t:Nat->aj) (n x:Int):aZ (ah [] 0 (exec prog (nE [(21,false)]) 60 0 uE (kE N t n x)))=(aa true !decide (x<((N:Nat):Int))):=by kernel_rfl
theorem Zj (N:Nat) (t:Nat->aj) (n x:Int):aA (ah [0,3,4] 0 (exec prog (nE [(21,true),(28,false),(36,true),(43,false),(60,false)]) 60 0 uE (kE N t n x)))=some (.normal,(kE N t n (i64.wrap (x+1))).t,[]):=by kernel_rfl
theorem TD (N:Nat) (t:Nat->aj) (n x:Int):aZ (ah [0,3,4] 0 (exec prog (nE [(21,true),(28,false),(36,true),(43,false),(60,false)]) 60 0 uE (kE N t n x)))=(aa (aa (aa (aa (aa (aa (aa (aa (aa (aa (aa (aa (aa (aa true (decide (x<((N:Nat):Int)))) (aX x N)) (true&&(decide (x.toNat<N)&&true))) !(t x.toNat).1) (aX x N)) (true&&(decide (x.toNat<N)&&true))) (aa true (gb {used:=(t x.toNat).used,name:=(t x.toNat).name,key:=(t x.toNat).key,sign:=(t x.toNat).sign,par:=(t x.toNat).par,un:=(t x.toNat).un}&&true))) (uO {used:=(t x.toNat).used,name:=(t x.toNat).name,key:=(t x.toNat).key,sign:=(t x.toNat).sign,par:=(t x.toNat).par,un:=(t x.toNat).un} {used:=false,name:=0,key:=List.replicate 32 0,sign:=List.replicate 32 0,par:=List.replicate 32 0,un:=[]})) (aX x N)) (true&&(decide (x.toNat<N)&&true))) !(t x.toNat).1) (aX x N)) (true&&(decide (x.toNat<N)&&true))) !(t x.toNat).1):=by kernel_rfl
theorem Zk (N:Nat) (t:Nat->aj) (n x:Int):aA (ah [2] 0 (exec prog (nE [(21,true),(28,false),(36,false)]) 60 0 uE (kE N t n x)))=some (.ret,(bS 95 2 false).t,[]):=by kernel_rfl
theorem TE (N:Nat) (t:Nat->aj) (n x:Int):aZ (ah [2] 0 (exec prog (nE [(21,true),(28,false),(36,false)]) 60 0 uE (kE N t n x)))=(aa (aa (aa (aa (aa (aa (aa (aa true (decide (x<((N:Nat):Int)))) (aX x N)) (true&&(decide (x.toNat<N)&&true))) !(t x.toNat).1) (aX x N)) (true&&(decide (x.toNat<N)&&true))) (aa true (gb {used:=(t x.toNat).used,name:=(t x.toNat).name,key:=(t x.toNat).key,sign:=(t x.toNat).sign,par:=(t x.toNat).par,un:=(t x.toNat).un}&&true))) !uO {used:=(t x.toNat).used,name:=(t x.toNat).name,key:=(t x.toNat).key,sign:=(t x.toNat).sign,par:=(t x.toNat).par,un:=(t x.toNat).un} {used:=false,name:=0,key:=List.replicate 32 0,sign:=List.replicate 32 0,par:=List.replicate 32 0,un:=[]}):=by kernel_rfl
theorem Zl (N:Nat) (t:Nat->aj) (n x:Int):aA (ah [0,3,4] 0 (exec prog (nE [(21,true),(28,true),(43,true),(47,true),(53,true),(60,true),(64,false)]) 60 0 uE (kE N t n x)))=some (.normal,(kE N t n (i64.wrap (x+1))).t,[]):=by kernel_rfl
theorem TF (N:Nat) (t:Nat->aj) (n x:Int):aZ (ah [0,3,4] 0 (exec prog (nE [(21,true),(28,true),(43,true),(47,true),(53,true),(60,true),(64,false)]) 60 0 uE (kE N t n x)))=(aa (aa (aa (aa (aa (aa (aa (aa (aa (aa (aa (aa (aa (aa true (decide (x<((N:Nat):Int)))) (aX x N)) (true&&(decide (x.toNat<N)&&true))) (t x.toNat).1) (aX x N)) (true&&(decide (x.toNat<N)&&true))) (t x.toNat).1) (x.tmod 2==1)) (aa true ((bF N λi=>af (aq t i))&&mN N x n))) (gH N (ag λi=>af (aq t i)) x n.toNat)) (aX x N)) (true&&(decide (x.toNat<N)&&true))) (t x.toNat).1) !x.tmod 2==0):=by kernel_rfl
theorem Zm (N:Nat) (t:Nat->aj) (n x:Int):aA (ah [2] 0 (exec prog (nE [(21,true),(28,true),(43,true),(47,true),(53,false)]) 60 0 uE (kE N t n x)))=some (.ret,(bS 95 2 false).t,[]):=by kernel_rfl
theorem TG (N:Nat) (t:Nat->aj) (n x:Int):aZ (ah [2] 0 (exec prog (nE [(21,true),(28,true),(43,true),(47,true),(53,false)]) 60 0 uE (kE N t n x)))=(aa (aa (aa (aa (aa (aa (aa (aa (aa (aa true (decide (x<((N:Nat):Int)))) (aX x N)) (true&&(decide (x.toNat<N)&&true))) (t x.toNat).1) (aX x N)) (true&&(decide (x.toNat<N)&&true))) (t x.toNat).1) (x.tmod 2==1)) (aa true ((bF N λi=>af (aq t i))&&mN N x n))) !gH N (ag λi=>af (aq t i)) x n.toNat):=by kernel_rfl
theorem Zn (N:Nat) (t:Nat->aj) (n x:Int):aA (ah [0,3,4] 0 ((aE prog (nE [(21,true)]) 60 0 2 (atoms uE) (kE N t n x)).map λs=>(Exit.normal,s)))=some (.normal,(kE N t n x).t,[]):=by kernel_rfl
theorem TH (N:Nat) (t:Nat->aj) (n x:Int):aZ (ah [0,3,4] 0 ((aE prog (nE [(21,true)]) 60 0 2 (atoms uE) (kE N t n x)).map λs=>(Exit.normal,s)))=(aa true (decide (x<((N:Nat):Int)))):=by kernel_rfl
theorem Zo (N:Nat) (t:Nat->aj) (n x:Int):aA (ah [0,3,4] 0 (exec prog (nE []) 60 0 (au 3 uE) (kE N t n x)))=some (.normal,(kE N t n (i64.wrap (x+1))).t,[]):=by kernel_rfl
theorem TI (N:Nat) (t:Nat->aj) (n x:Int):aZ (ah [0,3,4] 0 (exec prog (nE []) 60 0 (au 3 uE) (kE N t n x)))=(true):=by kernel_rfl
theorem aeI (N:Nat) (t:Nat->aj) (n x:Int):aA (ah [0,3,4,65] 0 ((aE prog (nE [(28,true),(43,true),(47,false),(60,true),(64,true)]) 60 0 5 (atoms Nw) (kE N t n x)).map λs=>(Exit.normal,s)))=some (.normal,(Jq N t n x [(65,.bool true)]).t,[]):=by kernel_rfl
theorem Zp (N:Nat) (t:Nat->aj) (n x:Int):aZ (ah [0,3,4,65] 0 ((aE prog (nE [(28,true),(43,true),(47,false),(60,true),(64,true)]) 60 0 5 (atoms Nw) (kE N t n x)).map λs=>(Exit.normal,s)))=(aa (aa (aa (aa (aa (aa (aa (aa (aa (aa (aa true (aX x N)) (true&&(decide (x.toNat<N)&&true))) (t x.toNat).1) (aX x N)) (true&&(decide (x.toNat<N)&&true))) (t x.toNat).1) !x.tmod 2==1) (aX x N)) (true&&(decide (x.toNat<N)&&true))) (t x.toNat).1) (x.tmod 2==0)):=by kernel_rfl
theorem Pg (N:Nat) (t:Nat->aj) (n x:Int):aA (ah [0,3,4,5] 0 ((aE prog (nE [(70,true)]) 60 0 3 (atoms Pf) (Jq N t n x [(65,.bool true)])).map λs=>(Exit.normal,s)))=some (.normal,(wj N t n x 0).t,[]):=by kernel_rfl
theorem Js (N:Nat) (t:Nat->aj) (n x:Int):aZ (ah [0,3,4,5] 0 ((aE prog (nE [(70,true)]) 60 0 3 (atoms Pf) (Jq N t n x [(65,.bool true)])).map λs=>(Exit.normal,s)))=(aa (aa (aa true (aX x N)) (true&&(decide (x.toNat<N)&&true))) (E7 {used:=(t x.toNat).used,name:=(t x.toNat).name,key:=(t x.toNat).key,sign:=(t x.toNat).sign,par:=(t x.toNat).par,un:=(t x.toNat).un})):=by kernel_rfl
theorem Zq (N:Nat) (t:Nat->aj) (n x:Int):aA (ah [2] 0 (exec prog (nE [(70,false)]) 60 0 Pf (Jq N t n x [(65,.bool true)])))=some (.ret,(bS 95 2 false).t,[]):=by kernel_rfl
theorem TJ (N:Nat) (t:Nat->aj) (n x:Int):aZ (ah [2] 0 (exec prog (nE [(70,false)]) 60 0 Pf (Jq N t n x [(65,.bool true)])))=(aa (aa (aa true (aX x N)) (true&&(decide (x.toNat<N)&&true))) !E7 {used:=(t x.toNat).used,name:=(t x.toNat).name,key:=(t x.toNat).key,sign:=(t x.toNat).sign,par:=(t x.toNat).par,un:=(t x.toNat).un}):=by kernel_rfl
theorem Zr (N:Nat) (t:Nat->aj) (n x y:Int):aA (ah [0,3,4,5] 0 (exec prog (nE [(74,true),(81,false)]) 60 0 J5 (wj N t n x y)))=some (.normal,(wj N t n x (i64.wrap (y+2))).t,[]):=by kernel_rfl
theorem TK (N:Nat) (t:Nat->aj) (n x y:Int):aZ (ah [0,3,4,5] 0 (exec prog (nE [(74,true),(81,false)]) 60 0 J5 (wj N t n x y)))=(aa (aa (aa (aa true (decide (y<x))) (aX y N)) (true&&(decide (y.toNat<N)&&true))) !(t y.toNat).1):=by kernel_rfl
theorem Zs (N:Nat) (t:Nat->aj) (n x y:Int):aA (ah [0,3,4,5] 0 (exec prog (nE [(74,true),(81,true),(93,false)]) 60 0 J5 (wj N t n x y)))=some (.normal,(wj N t n x (i64.wrap (y+2))).t,[]):=by kernel_rfl
theorem TL (N:Nat) (t:Nat->aj) (n x y:Int):aZ (ah [0,3,4,5] 0 (exec prog (nE [(74,true),(81,true),(93,false)]) 60 0 J5 (wj N t n x y)))=(aa (aa (aa (aa (aa (aa (aa (aa (aa true (decide (y<x))) (aX y N)) (true&&(decide (y.toNat<N)&&true))) (t y.toNat).1) (aX y N)) (true&&(decide (y.toNat<N)&&true))) (aX x N)) (true&&(decide (x.toNat<N)&&true))) !(t y.toNat).name==(t x.toNat).name):=by kernel_rfl
theorem Zt (N:Nat) (t:Nat->aj) (n x y:Int):aA (ah [2] 0 (exec prog (nE [(74,true),(81,true),(93,true)]) 60 0 J5 (wj N t n x y)))=some (.ret,(bS 95 2 false).t,[]):=by kernel_rfl
theorem TM (N:Nat) (t:Nat->aj) (n x y:Int):aZ (ah [2] 0 (exec prog (nE [(74,true),(81,true),(93,true)]) 60 0 J5 (wj N t n x y)))=(aa (aa (aa (aa (aa (aa (aa (aa (aa true (decide (y<x))) (aX y N)) (true&&(decide (y.toNat<N)&&true))) (t y.toNat).1) (aX y N)) (true&&(decide (y.toNat<N)&&true))) (aX x N)) (true&&(decide (x.toNat<N)&&true))) ((t y.toNat).name==(t x.toNat).name)):=by kernel_rfl
theorem Zu (N:Nat) (t:Nat->aj) (n x y:Int):aA (ah [0,3,4] 0 (exec prog (nE [(74,false)]) 60 0 J5 (wj N t n x y)))=some (.exit 2,(kE N t n x).t,[]):=by kernel_rfl
theorem TN (N:Nat) (t:Nat->aj) (n x y:Int):aZ (ah [0,3,4] 0 (exec prog (nE [(74,false)]) 60 0 J5 (wj N t n x y)))=(aa true !decide (y<x)):=by kernel_rfl
end Go.Proofs.YthlnlcijnoadcaaGreatDoor.Tr
