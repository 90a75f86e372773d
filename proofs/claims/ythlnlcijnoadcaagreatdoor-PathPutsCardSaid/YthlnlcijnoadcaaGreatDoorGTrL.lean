/- This file proves the contract of tree's Check. Conditions: a tree of 71 nodes at most. -/
import Derived.Test.YthlnlcijnoadcaaGreatDoorGTrH
import Derived.Test.YthlnlcijnoadcaaGreatDoorGTrK
noncomputable section
open Go.Proofs.Tryz
open Go.IntKind (i64 u8 u64 u32)
set_option linter.all false
set_option maxRecDepth 100000
namespace Go.Proofs.YthlnlcijnoadcaaGreatDoor.Tr
open Go Go.Sy
def mN (N:Nat) (x n:Int):Bool:=sizes.any λm=>decide (n=m)&&decide (N=2*m-1)&&aQ x m
theorem uz {N:Nat} {x n:Int} (h:mN N x n=true):∃m∈sizes,n=(m:Int)/\N=2*m-1/\aQ x m=true:=by
 obtain ⟨m,hm,h⟩:=aaT.1 h
 simp only [aac,aab] at h
 exact ⟨m,hm,h.1.1,h.1.2,h.2⟩
def IN:List SV->Option (SV×List Blk×Bool)
 | [.aJ false 99 N g,.int .i64 x,.int .i64 n]=>some (.bool (dZ (ag g) x n.toNat),[],bF N g&&mN N x n)
 |_=>none
def Sm:Entry prog:=.val 116 _ func116 (by decide) rfl true 0 IN λvs v new e=>by
 unfold IN at e
 split at e
 ·simp only [No,aae,aac] at e
  obtain ⟨rfl,rfl,h1,h2⟩:=e
  obtain ⟨m,hm,rfl,hN,hx⟩:=uz h2
  exact ai.conv (IL (t:=ag _) (cF.of h1 (by have:=bu hm;omega)) hm hN hx) ⟨VE.tree h1,VE.refl _,VE.refl _,trivial⟩ trivial (VE.refl _) trivial
 ·cases e
def IP:List SV->Option (SV×List Blk×Bool)
 | [.aJ false 99 N g,.int .i64 fr]=>some (.bool (dy N (ag g) fr.toNat),[],bF N g&&decide (N<=71)&&decide (0<=fr)&&decide (fr<=71))
 |_=>none
def Sn:Entry prog:=.val 117 _ func117 (by decide) rfl true 0 IP λvs v new e=>by
 unfold IP at e
 split at e
 ·simp only [No,aae,aac,aab] at e
  obtain ⟨rfl,rfl,⟨⟨h1,h2⟩,h3⟩,h4⟩:=e
  obtain ⟨y,rfl⟩:=aaB h3
  exact ai.conv (IE (t:=ag _) (fr:=y) (by omega) (by omega)) ⟨VE.tree h1,VE.refl _,trivial⟩ trivial (VE.refl _) trivial
 ·cases e
def Yz (b:Bool):Entry prog:=.val 115 _ func115 (by decide) rfl true 0 (λvs=>match vs with
 | [.agg [.bool u,.int .i64 n,.ints .u8 32 k,.ints .u8 32 s,.ints .u8 32 p,.ro false .i64 un]]=>some (.bool b,[],DM u n un==b)
 |_=>none) λvs v new e=>by
 split at e
 ·simp only [No,aae,aaS] at e
  obtain ⟨rfl,rfl,h⟩:=e
  rw [<-h]
  exact Mo _ _ _ _ _ _
 ·cases e
def xu:Entry prog:=.val 91 _ func91 (by decide) rfl false 0 (λvs=>match vs with
 | [.int .i64 n]=>some (.int .i64 (aO n),[],true)
 |_=>none) λvs v new e=>by
 split at e
 ·simp only [No,aae] at e
  obtain ⟨rfl,rfl,_⟩:=e
  exact Eu _
 ·cases e
def dO (b:Bool) (l:List (Nat×Bool)):bO:=mk (P:=prog) [xu,Yz b,Yn,Sm,Sn] [] (uT l)
theorem cL (b:Bool) (l:List (Nat×Bool)):ak prog (dO b l):=az _ aL.nil _ _
def uh:Code:=aP f77
def EE:Code:=ej (ej (ej (ej uh)))
def rT:Code:=inner (inner (ej (iB EE)))
def CX:Code:=inner (iB (ej (ej rT)))
def O4:Code:=inner (iB (ej (ej CX)))
def vU:Code:=cdB (ej O4)
def zO:Code:=Yy (ej vU)
def vl:SV:=.iface 112 (.int .i64 3)
abbrev MM (N:Nat) (t:Nat->aj):SV:=.aJ false 99 N (aq t)
def ckX (N:Nat) (t:Nat->aj) (n:Int) (m:Nat) (i:Int) (x:List (Nat×SV)) (h:List Blk):St:=⟨slotsOf 60 ([(0,MM N t),(3,.int .i64 n),(4,.nl (.map (some m))),(15,MM N t),(16,.int .i64 N),(17,.int .i64 i)]++x),h,true⟩
def oH (N:Nat) (t:Nat->aj) (n:Int) (m:Nat) (i:Int):St:=ckX N t n m i [] []
def ju (N:Nat) (t:Nat->aj) (n:Int) (m:Nat) (i:Int) (x:List (Nat×SV)):St:=ckX N t n m i ([(5,.int .i64 i),(6,.ptr 0 0 0)]++x) [.b (t i.toNat).cells]
def IQ (v:SV):St:=⟨slotsOf 60 [(2,v)],[],true⟩
def Ad (N:Nat) (t:Nat->aj) (n:Int) (x:List (Nat×SV)):St:=⟨slotsOf 60 ([(0,MM N t),(3,.int .i64 n)]++x),[],true⟩
theorem MN (N:Nat) (t:Nat->aj):(aG prog (dO true [(12,true)]) 60 f77 [MM N t] []).map (λx=>(x.1,x.2.2))=some (vl,aa true (aO ((N:Nat):Int)==0)):=by kernel_rfl
theorem MO (N:Nat) (t:Nat->aj):aA (ah [0,3] 0 ((aE prog (dO true [(12,false)]) 60 0 3 [iB uh,iB (ej uh),iB (ej (ej uh))] ⟨aD f77.ntmps [MM N t],[],true⟩).map λs=>(Exit.normal,s)))=some (.normal,(Ad N t (aO N) []).t,[]):=by kernel_rfl
theorem IS (N:Nat) (t:Nat->aj):aZ (ah [0,3] 0 ((aE prog (dO true [(12,false)]) 60 0 3 [iB uh,iB (ej uh),iB (ej (ej uh))] ⟨aD f77.ntmps [MM N t],[],true⟩).map λs=>(Exit.normal,s)))=(aa true !aO ((N:Nat):Int)==0):=by kernel_rfl
theorem YA (N:Nat) (t:Nat->aj) (n:Int) (m:Nat):aA (ah [0,3,4] 0 ((b7 prog (dH prog (dO true []) λk=>Sy.exec prog (dO true []) 60 k) (dO true []).sym (dO true []).ey 0 (opsOf (iB (ej (ej (ej uh))))) [1] ⟨bw (Ad N t n []).t (some 14) (.nl (.map (some m))),[],true⟩).map λs=>(Exit.normal,s)))=some (.normal,(Ad N t n [(4,.nl (.map (some m)))]).t,[]):=by kernel_rfl
theorem So (N:Nat) (t:Nat->aj) (n:Int) (m:Nat):aZ (ah [0,3,4] 0 ((b7 prog (dH prog (dO true []) λk=>Sy.exec prog (dO true []) 60 k) (dO true []).sym (dO true []).ey 0 (opsOf (iB (ej (ej (ej uh))))) [1] ⟨bw (Ad N t n []).t (some 14) (.nl (.map (some m))),[],true⟩).map λs=>(Exit.normal,s)))=(true):=by kernel_rfl
theorem MP (N:Nat) (t:Nat->aj) (n:Int) (m:Nat):aA (ah [0,3,4,15,16,17] 0 (exec prog (dO true []) 60 0 (iB (iB EE)) (Ad N t n [(4,.nl (.map (some m)))])))=some (.normal,(oH N t n m 0).t,[]):=by kernel_rfl
theorem IT (N:Nat) (t:Nat->aj) (n:Int) (m:Nat):aZ (ah [0,3,4,15,16,17] 0 (exec prog (dO true []) 60 0 (iB (iB EE)) (Ad N t n [(4,.nl (.map (some m)))])))=(true):=by kernel_rfl
theorem YB (N:Nat) (t:Nat->aj) (n:Int) (m:Nat) (i:Int):aA (ah [0,3,4,15,16,17] 0 (exec prog (dO true [(18,true),(26,true),(52,false)]) 60 0 rT (oH N t n m i)))=some (.normal,(oH N t n m (i64.wrap (i+1))).t,[]):=by kernel_rfl
theorem Sp (N:Nat) (t:Nat->aj) (n:Int) (m:Nat) (i:Int):aZ (ah [0,3,4,15,16,17] 0 (exec prog (dO true [(18,true),(26,true),(52,false)]) 60 0 rT (oH N t n m i)))=(aa (aa (aa (aa (aa (aa true (decide (i<((N:Nat):Int)))) (aX i N)) (true&&(decide (i.toNat<N)&&true))) !(t i.toNat).1) (aa true (jH (t i.toNat).key (t i.toNat).sign (t i.toNat).par (t i.toNat).un&&true))) !!kq (t i.toNat).used false (t i.toNat).name 0 (t i.toNat).key (t i.toNat).sign (t i.toNat).par (t i.toNat).un (List.replicate 32 0) (List.replicate 32 0) (List.replicate 32 0) []):=by kernel_rfl
theorem YC (N:Nat) (t:Nat->aj) (n:Int) (m:Nat) (i:Int):aA (ah [2] 0 (exec prog (dO true [(18,true),(26,true),(52,true)]) 60 0 rT (oH N t n m i)))=some (.ret,(IQ vl).t,[]):=by kernel_rfl
theorem Sq (N:Nat) (t:Nat->aj) (n:Int) (m:Nat) (i:Int):aZ (ah [2] 0 (exec prog (dO true [(18,true),(26,true),(52,true)]) 60 0 rT (oH N t n m i)))=(aa (aa (aa (aa (aa (aa true (decide (i<((N:Nat):Int)))) (aX i N)) (true&&(decide (i.toNat<N)&&true))) !(t i.toNat).1) (aa true (jH (t i.toNat).key (t i.toNat).sign (t i.toNat).par (t i.toNat).un&&true))) !kq (t i.toNat).used false (t i.toNat).name 0 (t i.toNat).key (t i.toNat).sign (t i.toNat).par (t i.toNat).un (List.replicate 32 0) (List.replicate 32 0) (List.replicate 32 0) []):=by kernel_rfl
theorem YD (N:Nat) (t:Nat->aj) (n:Int) (m:Nat) (i:Int):aA (ah [0,3,4,15,16,17] 0 (exec prog (dO true [(18,true),(26,false),(33,false),(52,false)]) 60 0 rT (oH N t n m i)))=some (.normal,(oH N t n m (i64.wrap (i+1))).t,[]):=by kernel_rfl
theorem Sr (N:Nat) (t:Nat->aj) (n:Int) (m:Nat) (i:Int):aZ (ah [0,3,4,15,16,17] 0 (exec prog (dO true [(18,true),(26,false),(33,false),(52,false)]) 60 0 rT (oH N t n m i)))=(aa (aa (aa (aa (aa (aa (aa true (decide (i<((N:Nat):Int)))) (aX i N)) (true&&(decide (i.toNat<N)&&true))) !!(t i.toNat).1) !i.tmod 2==0) (aa true ((bF N λi=>af (aq t i))&&mN N i n))) !!dZ (ag λi=>af (aq t i)) i n.toNat):=by kernel_rfl
theorem YE (N:Nat) (t:Nat->aj) (n:Int) (m:Nat) (i:Int):aA (ah [2] 0 (exec prog (dO true [(18,true),(26,false),(33,false),(52,true)]) 60 0 rT (oH N t n m i)))=some (.ret,(IQ vl).t,[]):=by kernel_rfl
theorem Ss (N:Nat) (t:Nat->aj) (n:Int) (m:Nat) (i:Int):aZ (ah [2] 0 (exec prog (dO true [(18,true),(26,false),(33,false),(52,true)]) 60 0 rT (oH N t n m i)))=(aa (aa (aa (aa (aa (aa (aa true (decide (i<((N:Nat):Int)))) (aX i N)) (true&&(decide (i.toNat<N)&&true))) !!(t i.toNat).1) !i.tmod 2==0) (aa true ((bF N λi=>af (aq t i))&&mN N i n))) !dZ (ag λi=>af (aq t i)) i n.toNat):=by kernel_rfl
theorem Be (N:Nat) (t:Nat->aj) (n:Int) (m:Nat) (i:Int):aA (ah [0,3] 0 (exec prog (dO true [(18,false)]) 60 0 rT (oH N t n m i)))=some (.exit 0,(Ad N t n []).t,[]):=by kernel_rfl
theorem MQ (N:Nat) (t:Nat->aj) (n:Int) (m:Nat) (i:Int):aZ (ah [0,3] 0 (exec prog (dO true [(18,false)]) 60 0 rT (oH N t n m i)))=(aa true !decide (i<((N:Nat):Int))):=by kernel_rfl
theorem O5 (N:Nat) (t:Nat->aj) (n:Int) (m:Nat) (i:Int):aA (ah [0,3,4,15,16,17] 0 ((aE prog (dO true [(18,true)]) 60 0 2 [iB rT,iB (ej rT)] (oH N t n m i)).map λs=>(Exit.normal,s)))=some (.normal,(oH N t n m i).t,[]):=by kernel_rfl
theorem IU (N:Nat) (t:Nat->aj) (n:Int) (m:Nat) (i:Int):aZ (ah [0,3,4,15,16,17] 0 ((aE prog (dO true [(18,true)]) 60 0 2 [iB rT,iB (ej rT)] (oH N t n m i)).map λs=>(Exit.normal,s)))=(aa true (decide (i<((N:Nat):Int)))):=by kernel_rfl
theorem O6 (N:Nat) (t:Nat->aj) (n:Int) (m:Nat) (i:Int):aA (ah [0,3,4,5,6,15,16,17] 1 ((aE prog (dO true []) 60 0 2 [iB CX,iB (ej CX)] (oH N t n m i)).map λs=>(Exit.normal,s)))=some (.normal,(ju N t n m i []).t,[.b (t i.toNat).cells]):=by kernel_rfl
theorem IV (N:Nat) (t:Nat->aj) (n:Int) (m:Nat) (i:Int):aZ (ah [0,3,4,5,6,15,16,17] 1 ((aE prog (dO true []) 60 0 2 [iB CX,iB (ej CX)] (oH N t n m i)).map λs=>(Exit.normal,s)))=(aa (aa true (aX i N)) (true&&(decide (i.toNat<N)&&true))):=by kernel_rfl
theorem YF (N:Nat) (t:Nat->aj) (n:Int) (m:Nat) (i:Int):aA (ah [0,3,4,5,6,15,16,17,26] 1 ((aE prog (dO true []) 60 1 1 [iB O4] (ju N t n m i [])).map λs=>(Exit.normal,s)))=some (.normal,(ju N t n m i [(26,.bool (!(t i.toNat).used))]).t,[.b (t i.toNat).cells]):=by kernel_rfl
theorem IW (N:Nat) (t:Nat->aj) (n:Int) (m:Nat) (i:Int):aZ (ah [0,3,4,5,6,15,16,17,26] 1 ((aE prog (dO true []) 60 1 1 [iB O4] (ju N t n m i [])).map λs=>(Exit.normal,s)))=(true):=by kernel_rfl
theorem YG (N:Nat) (t:Nat->aj) (n:Int) (m:Nat) (i:Int) (b:Bool):aA (ah [0,3,4,5,6,15,16,17,33] 1 ((aE prog (dO true []) 60 1 1 [iB vU] (ju N t n m i [(26,.bool b)])).map λs=>(Exit.normal,s)))=some (.normal,(ju N t n m i [(33,.bool (i.tmod 2==0))]).t,[.b (t i.toNat).cells]):=by kernel_rfl
theorem IX (N:Nat) (t:Nat->aj) (n:Int) (m:Nat) (i:Int) (b:Bool):aZ (ah [0,3,4,5,6,15,16,17,33] 1 ((aE prog (dO true []) 60 1 1 [iB vU] (ju N t n m i [(26,.bool b)])).map λs=>(Exit.normal,s)))=(true):=by kernel_rfl
theorem YH (N:Nat) (t:Nat->aj) (n:Int) (m:Nat) (i:Int) (b:Bool):aA (ah [0,3,4,5,6,15,16,17,37,39] 1 ((b7 prog (dH prog (dO true []) λk=>Sy.exec prog (dO true []) 60 k) (dO true []).sym (dO true []).ey 1 (opsOf (iB zO)) [0,1,2] (ju N t n m i [(33,.bool b)])).map λs=>(Exit.normal,s)))=some (.normal,(ju N t n m i [(37,.nl (.map (some m))),(39,.int .i64 (t i.toNat).name)]).t,[.b (t i.toNat).cells]):=by kernel_rfl
theorem Su (N:Nat) (t:Nat->aj) (n:Int) (m:Nat) (i:Int) (b:Bool):aZ (ah [0,3,4,5,6,15,16,17,37,39] 1 ((b7 prog (dH prog (dO true []) λk=>Sy.exec prog (dO true []) 60 k) (dO true []).sym (dO true []).ey 1 (opsOf (iB zO)) [0,1,2] (ju N t n m i [(33,.bool b)])).map λs=>(Exit.normal,s)))=(true):=by kernel_rfl
theorem YI (N:Nat) (t:Nat->aj) (n:Int) (m:Nat) (i y:Int):aA (ah [0,3,4,5,6,15,16,17,37,39,41] 1 ((b7 prog (dH prog (dO true []) λk=>Sy.exec prog (dO true []) 60 k) (dO true []).sym (dO true []).ey 1 (opsOf (iB zO)) [4] ⟨bw (ju N t n m i [(37,.nl (.map (some m))),(39,.int .i64 (t i.toNat).name)]).t (some 40) (.int .i64 y),[.b (t i.toNat).cells],true⟩).map λs=>(Exit.normal,s)))=some (.normal,(ju N t n m i [(37,.nl (.map (some m))),(39,.int .i64 (t i.toNat).name),(41,.int .i64 (i64.wrap (y+1)))]).t,[.b (t i.toNat).cells]):=by kernel_rfl
theorem Sv (N:Nat) (t:Nat->aj) (n:Int) (m:Nat) (i y:Int):aZ (ah [0,3,4,5,6,15,16,17,37,39,41] 1 ((b7 prog (dH prog (dO true []) λk=>Sy.exec prog (dO true []) 60 k) (dO true []).sym (dO true []).ey 1 (opsOf (iB zO)) [4] ⟨bw (ju N t n m i [(37,.nl (.map (some m))),(39,.int .i64 (t i.toNat).name)]).t (some 40) (.int .i64 y),[.b (t i.toNat).cells],true⟩).map λs=>(Exit.normal,s)))=(true):=by kernel_rfl
theorem YJ (N:Nat) (t:Nat->aj) (n:Int) (m:Nat) (i y:Int):aA (ah [0,3,4,5,6,15,16,17,44,45,47] 1 ((b7 prog (dH prog (dO true []) λk=>Sy.exec prog (dO true []) 60 k) (dO true []).sym (dO true []).ey 1 (opsOf (ej zO)) [0,1,2,3,4,5] (ju N t n m i [(37,.nl (.map (some m))),(39,.int .i64 (t i.toNat).name),(41,.int .i64 y)])).map λs=>(Exit.normal,s)))=some (.normal,(ju N t n m i [(44,.bool true),(45,.nl (.map (some m))),(47,.int .i64 (t i.toNat).name)]).t,[.b (t i.toNat).cells]):=by kernel_rfl
theorem Sw (N:Nat) (t:Nat->aj) (n:Int) (m:Nat) (i y:Int):aZ (ah [0,3,4,5,6,15,16,17,44,45,47] 1 ((b7 prog (dH prog (dO true []) λk=>Sy.exec prog (dO true []) 60 k) (dO true []).sym (dO true []).ey 1 (opsOf (ej zO)) [0,1,2,3,4,5] (ju N t n m i [(37,.nl (.map (some m))),(39,.int .i64 (t i.toNat).name),(41,.int .i64 y)])).map λs=>(Exit.normal,s)))=(aa true (aa true (DM (t i.toNat).used (t i.toNat).name (t i.toNat).un==true))):=by kernel_rfl
theorem YK (N:Nat) (t:Nat->aj) (n:Int) (m:Nat) (i y:Int):aA (ah [0,3,4,5,6,7,15,16,17] 1 ((b7 prog (dH prog (dO true []) λk=>Sy.exec prog (dO true []) 60 k) (dO true []).sym (dO true []).ey 1 (opsOf (ej zO)) [7,8,9] ⟨bw (ju N t n m i [(44,.bool true),(45,.nl (.map (some m))),(47,.int .i64 (t i.toNat).name)]).t (some 48) (.int .i64 y),[.b (t i.toNat).cells],true⟩).map λs=>(Exit.normal,s)))=some (.normal,(ju N t n m i [(7,.bool (y==1))]).t,[.b (t i.toNat).cells]):=by kernel_rfl
theorem Sx (N:Nat) (t:Nat->aj) (n:Int) (m:Nat) (i y:Int):aZ (ah [0,3,4,5,6,7,15,16,17] 1 ((b7 prog (dH prog (dO true []) λk=>Sy.exec prog (dO true []) 60 k) (dO true []).sym (dO true []).ey 1 (opsOf (ej zO)) [7,8,9] ⟨bw (ju N t n m i [(44,.bool true),(45,.nl (.map (some m))),(47,.int .i64 (t i.toNat).name)]).t (some 48) (.int .i64 y),[.b (t i.toNat).cells],true⟩).map λs=>(Exit.normal,s)))=(true):=by kernel_rfl
theorem YL (N:Nat) (t:Nat->aj) (n:Int) (m:Nat) (i y:Int):aA (ah [0,3,4,5,6,7,15,16,17] 1 ((b7 prog (dH prog (dO false []) λk=>Sy.exec prog (dO false []) 60 k) (dO false []).sym (dO false []).ey 1 (opsOf (ej zO)) [0,1,2,3,4,5,6,7,8,9] (ju N t n m i [(37,.nl (.map (some m))),(39,.int .i64 (t i.toNat).name),(41,.int .i64 y)])).map λs=>(Exit.normal,s)))=some (.normal,(ju N t n m i [(7,.bool false)]).t,[.b (t i.toNat).cells]):=by kernel_rfl
theorem Sz (N:Nat) (t:Nat->aj) (n:Int) (m:Nat) (i y:Int):aZ (ah [0,3,4,5,6,7,15,16,17] 1 ((b7 prog (dH prog (dO false []) λk=>Sy.exec prog (dO false []) 60 k) (dO false []).sym (dO false []).ey 1 (opsOf (ej zO)) [0,1,2,3,4,5,6,7,8,9] (ju N t n m i [(37,.nl (.map (some m))),(39,.int .i64 (t i.toNat).name),(41,.int .i64 y)])).map λs=>(Exit.normal,s)))=(aa true (aa true (DM (t i.toNat).used (t i.toNat).name (t i.toNat).un==false))):=by kernel_rfl
theorem YM (N:Nat) (t:Nat->aj) (n:Int) (m:Nat) (i:Int) (b:Bool):aA (ah [0,3,4,15,16,17] 0 (exec prog (dO true [(52,false)]) 60 1 (ej (ej (ej CX))) (ju N t n m i [(7,.bool b)])))=some (.normal,(oH N t n m i).t,[]):=by kernel_rfl
theorem SA (N:Nat) (t:Nat->aj) (n:Int) (m:Nat) (i:Int) (b:Bool):aZ (ah [0,3,4,15,16,17] 0 (exec prog (dO true [(52,false)]) 60 1 (ej (ej (ej CX))) (ju N t n m i [(7,.bool b)])))=(aa true !!b):=by kernel_rfl
theorem YN (N:Nat) (t:Nat->aj) (n:Int) (m:Nat) (i:Int) (b:Bool):aA (ah [2] 0 (exec prog (dO true [(52,true)]) 60 1 (ej (ej (ej CX))) (ju N t n m i [(7,.bool b)])))=some (.ret,(IQ vl).t,[]):=by kernel_rfl
theorem SB (N:Nat) (t:Nat->aj) (n:Int) (m:Nat) (i:Int) (b:Bool):aZ (ah [2] 0 (exec prog (dO true [(52,true)]) 60 1 (ej (ej (ej CX))) (ju N t n m i [(7,.bool b)])))=(aa true !b):=by kernel_rfl
theorem YO (N:Nat) (t:Nat->aj) (n:Int) (m:Nat) (i:Int):aA (ah [0,3,4,15,16,17] 0 (exec prog (dO true []) 60 0 (ej (ej (ej rT))) (oH N t n m i)))=some (.normal,(oH N t n m (i64.wrap (i+1))).t,[]):=by kernel_rfl
theorem SC (N:Nat) (t:Nat->aj) (n:Int) (m:Nat) (i:Int):aZ (ah [0,3,4,15,16,17] 0 (exec prog (dO true []) 60 0 (ej (ej (ej rT))) (oH N t n m i)))=(true):=by kernel_rfl
theorem YP (N:Nat) (t:Nat->aj) (n:Int):aA (ah [2] 0 (exec prog (dO true [(58,false)]) 60 0 (ej EE) (Ad N t n [])))=some (.ret,(IQ (.nl .nilIface)).t,[]):=by kernel_rfl
theorem SD (N:Nat) (t:Nat->aj) (n:Int):aZ (ah [2] 0 (exec prog (dO true [(58,false)]) 60 0 (ej EE) (Ad N t n [])))=(aa (aa true (aa true ((bF N λi=>af (aq t i))&&decide (N<=71)&&decide (0<=i64.wrap (n.tdiv 2))&&decide (i64.wrap (n.tdiv 2)<=71)))) !dy N (ag λi=>af (aq t i)) (i64.wrap (n.tdiv 2)).toNat):=by kernel_rfl
theorem YQ (N:Nat) (t:Nat->aj) (n:Int):aA (ah [2] 0 (exec prog (dO true [(58,true)]) 60 0 (ej EE) (Ad N t n [])))=some (.ret,(IQ vl).t,[]):=by kernel_rfl
theorem SE (N:Nat) (t:Nat->aj) (n:Int):aZ (ah [2] 0 (exec prog (dO true [(58,true)]) 60 0 (ej EE) (Ad N t n [])))=(aa (aa true (aa true ((bF N λi=>af (aq t i))&&decide (N<=71)&&decide (0<=i64.wrap (n.tdiv 2))&&decide (i64.wrap (n.tdiv 2)<=71)))) (dy N (ag λi=>af (aq t i)) (i64.wrap (n.tdiv 2)).toNat)):=by kernel_rfl
end Go.Proofs.YthlnlcijnoadcaaGreatDoor.Tr
