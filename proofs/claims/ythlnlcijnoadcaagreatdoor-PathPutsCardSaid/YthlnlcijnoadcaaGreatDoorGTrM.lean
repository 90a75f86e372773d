/- This file proves the contract of tree's Check, from its runs. Conditions: a tree of 71 nodes at most. -/
import Derived.Test.YthlnlcijnoadcaaGreatDoorGTrL
noncomputable section
open Go.Proofs.Tryz
open Go.IntKind (i64 u8 u64 u32)
set_option linter.all false
namespace Go.Proofs.YthlnlcijnoadcaaGreatDoor.Tr
open Go Go.Sy
def lS (t:Nat->aj):Nat->List (Int×Int)
 |0=>[]
 |i+1=>bif (t i).used&&(i%2==0) then lU (lS t i) (t i).name (i64.wrap (iq (lS t i) (t i).name+1)) else lS t i
def om (x:aj):Bool:=kq x.used false x.name 0 x.key x.sign x.par x.un (List.replicate 32 0) (List.replicate 32 0) (List.replicate 32 0) []
def eW (t:Nat->aj) (n i:Nat):Bool:=bif !(t i).used then om (t i) else bif i%2==0 then DM (t i).used (t i).name (t i).un&&(iq (lS t (i+1)) (t i).name==1) else dZ t i n
def aM (N:Nat) (t:Nat->aj):Bool:=!(aO N==0)&&((List.range N).all (eW t (aO N).toNat)&&!dy N t (i64.wrap ((aO N).tdiv 2)).toNat)
theorem IY:rT=[iB rT,iB (ej rT)].foldr .seq (.seq (.block 1 CX) (ej (ej (ej rT)))):=by kernel_rfl
theorem IZ:CX=[iB CX,iB (ej CX)].foldr .seq (.seq (.block 2 O4) (ej (ej (ej CX)))):=by kernel_rfl
theorem I0:O4=[iB O4].foldr .seq (.cond (.tmp 26) (Yy (ej O4)) vU):=by kernel_rfl
theorem I1:vU=[iB vU].foldr .seq (.cond (.tmp 33) zO (cdB (ej vU))):=by kernel_rfl
theorem SF:zO= .seq (.region 13 (opsOf (iB zO)) false) (.region 14 (opsOf (ej zO)) false):=by kernel_rfl
theorem SG:EE= .seq (.seq (iB (iB EE)) (.block 0 (.loop rT))) (ej EE):=by kernel_rfl
theorem SH:uh=[iB uh,iB (ej uh),iB (ej (ej uh))].foldr .seq (.seq (.region 4 (opsOf (iB (ej (ej (ej uh))))) false) EE):=by kernel_rfl
theorem AU (i:Nat):(((i:Nat):Int).tmod 2==0)=(i%2==0):=by
 rw [show (2:Int)=((2:Nat):Int) from rfl, <-Int.ofNat_tmod]
 cases h:(i%2==0) with
 |true=>rw [eq_of_beq h];rfl
 |false=>
  rw [beq_eq_false_iff_ne] at h ⊢
  omega
section
variable {N:Nat} {t:Nat->aj} {n i m:Nat}
theorem CY (l:List (Int×Int)) (b:Bool) (hb:DM (t i).used (t i).name (t i).un=b):
  TrX prog none 0 zO (ju N t n m i [(33,.bool true)]) (eN m l) .normal (ju N t n m i [(7,.bool (b&&(iq (lU l (t i).name (i64.wrap (iq l (t i).name+1))) (t i).name==1)))]) (eN m (lU l (t i).name (i64.wrap (iq l (t i).name+1)))):=by
 have K:=eN.keeps m
 have F:=eN.free m
 have hu:prog.underlying 170=some (.map 3 3):=by kernel_rfl
 have hk:prog.underlying 3=some (.int .i64):=by kernel_rfl
 have hz:zeroOf prog 3=some (.int .i64 0):=by kernel_rfl
 rw [SF]
 refine TrX.seq (H1:=eN m (lU l (t i).name (i64.wrap (iq l (t i).name+1)))) (s1:=ju N t n m i [(37,.nl (.map (some m))),(39,.int .i64 (t i).name),(41,.int .i64 (i64.wrap (iq l (t i).name+1)))]) (TrX.region 13 ?_) (TrX.region 14 ?_)
 ·rw [show List.range (opsOf (iB zO)).size=[0,1,2]++([3]++([4]++[5])) by kernel_rfl]
  refine OX.append (OX.ED (cL true []) (K l) (F l) 60 _ 1 (by decide) _ (YH N t n m i true) (Su N t n m i true) rfl (s':=ju N t n m i [(37,.nl (.map (some m))),(39,.int .i64 (t i).name)])) ?_
  refine OX.append (OX.ask (dst:=some 40) (t:=170) (xm:=.tmp 37) (xk:=.tmp 39) (by kernel_rfl) (by kernel_rfl) hu hk hz (by kernel_rfl) (x:=(t i).name) (by kernel_rfl)) ?_
  exact OX.append (OX.ED (cL true []) (K l) (F l) 60 _ 1 (by decide) _ (YI N t n m i _) (Sv N t n m i _) rfl) (OX.write (t:=170) (xm:=.tmp 37) (xk:=.tmp 39) (xv:=.tmp 41) (by kernel_rfl) (by kernel_rfl) hu hk (by kernel_rfl) (by kernel_rfl) (by kernel_rfl))
 ·cases b with
  |false=>
   exact OX.ED (cL false []) (K _) (F _) 60 _ 1 (by decide) _ (YL N t n m i _) (Sz N t n m i _) (by rw [aaa,hb];rfl)
  |true=>
   rw [show List.range (opsOf (ej zO)).size=[0,1,2,3,4,5]++([6]++[7,8,9]) by kernel_rfl]
   refine OX.append (OX.ED (cL true []) (K _) (F _) 60 _ 1 (by decide) _ (YJ N t n m i _) (Sw N t n m i _) (by rw [aaa,hb];rfl) (s':=ju N t n m i [(44,.bool true),(45,.nl (.map (some m))),(47,.int .i64 (t i).name)])) ?_
   refine OX.append (OX.ask (dst:=some 48) (t:=170) (xm:=.tmp 45) (xk:=.tmp 47) (by kernel_rfl) (by kernel_rfl) hu hk hz (by kernel_rfl) (x:=(t i).name) (by kernel_rfl)) ?_
   exact OX.ED (cL true []) (K _) (F _) 60 _ 1 (by decide) _ (YK N t n m i _) (Sx N t n m i _) rfl
theorem kC (hT:cF N t) (hi:i<N):jH (t i).key (t i).sign (t i).par (t i).un=true:=kB.2 ⟨hT.key i hi,hT.sign i hi,hT.par i hi,hT.un i hi⟩
theorem sn (hn:n∈sizes) (hN:N=2*n-1) (hi:i<N):mN N i n=true:=by
 refine aaT.2 ⟨n,hn,?_⟩
 have hs:=bu hn
 simp only [aac,aab]
 refine ⟨⟨trivial,hN⟩,aaT.2 ⟨n,hn,?_⟩⟩
 simp only [aac,aab]
 refine ⟨⟨trivial,?_⟩,?_⟩<;>omega
theorem MR (hT:cF N t) (hi:i<N):i64.wrap ((i:Nat)+1:Int)=((i+1:Nat):Int):=by
 have:=hT.le
 rw [cq (by omega)]
theorem I2 (hu:(t i).used=true):aA (ah [0,3,4,5,6,15,16,17,26] 1 ((aE prog (dO true []) 60 1 1 [iB O4] (ju N t n m i [])).map λs=>(Exit.normal,s)))=some (.normal,(ju N t n m i [(26,.bool false)]).t,(ju N t n m i [(26,.bool false)]).h):=by
 have h:(!(t ((i:Nat):Int).toNat).used)=false:=by rw [aaa,hu];rfl
 rw [YF N t n m i,h]
 rfl
theorem I3 (hp:(i%2==0)=true):aA (ah [0,3,4,5,6,15,16,17,33] 1 ((aE prog (dO true []) 60 1 1 [iB vU] (ju N t n m i [(26,.bool false)])).map λs=>(Exit.normal,s)))=some (.normal,(ju N t n m i [(33,.bool true)]).t,(ju N t n m i [(33,.bool true)]).h):=by
 rw [YG N t n m i false,AU,hp]
 rfl
theorem CZ (hT:cF N t) (hn:n∈sizes) (hN:N=2*n-1) (hi:i<N) (hg:eW t n i=true):
  TrX prog none 0 rT (oH N t n m i) (eN m (lS t i)) .normal (oH N t n m ((i+1:Nat):Int)) (eN m (lS t (i+1))):=by
 have K:=eN.keeps m
 have F:=eN.free m
 have hst:=MR hT hi
 have hlt:=fo hi
 have hin:=bf hi
 have hle:=hT.le
 unfold eW at hg
 cases hu:(t i).used with
 |false=>
  rw [hu] at hg
  simp only [aeF,aeL] at hg
  have e:=YB N t n m i
  rw [hst] at e
  have:lS t (i+1)=lS t i:=by simp only [lS,hu,adw,cond_false]
  rw [this]
  refine TrX.aR (cL true _) (K _) (F _) 60 _ 0 (aaf _) _ e (Sp N t n m i) ?_
  rw [aaa,hlt,hin,Me hi,kC hT hi,show (t i).1=false from hu]
  unfold om at hg
  rw [hu] at hg
  rw [hg];rfl
 |true=>
  rw [hu] at hg
  simp only [Bool.not_true,cond_false] at hg
  cases hp:(i%2==0) with
  |false=>
   rw [hp] at hg
   simp only [cond_false] at hg
   have e:=YD N t n m i
   rw [hst] at e
   have:lS t (i+1)=lS t i:=by simp only [lS,hp,acC,cond_false]
   rw [this]
   refine TrX.aR (cL true _) (K _) (F _) 60 _ 0 (aaf _) _ e (Sr N t n m i) ?_
   rw [aaa,hlt,hin,Me hi,show (t i).1=true from hu,AU,hp,show bF N (λi=>af (aq t i))=true from bq hT,sn hn hN hi,aaa,show dZ (ag λi=>af (aq t i)) i n=true from hg]
   rfl
  |true=>
   rw [hp] at hg
   simp only [aeL] at hg
   have hnm:lS t (i+1)=lU (lS t i) (t i).name (i64.wrap (iq (lS t i) (t i).name+1)):=by simp only [lS,hu,hp,Bool.and_self,aeL]
   rw [hnm] at hg ⊢
   obtain ⟨h1,h2⟩:=abS.1 hg
   have X:=CY (N:=N) (t:=t) (i:=i) (n:=n) (m:=m) (lS t i) true (by rw [hu];exact h1)
   rw [h2] at X
   have hl5:=YO N t n m i
   rw [hst] at hl5
   rw [IY]
   refine TrX.pZ (cL true [(18,true)]) (K _) (F _) 60 _ 0 (aaf _) _ (O5 N t n m i) (IU N t n m i) (by rw [hlt];rfl) ?_
   refine TrX.seq (s1:=oH N t n m i) (TrX.b8 ?_ (by simp)) (TrX.aR (cL true []) (K _) (F _) 60 _ 0 (aaf _) _ hl5 (SC N t n m i) rfl)
   rw [IZ]
   refine TrX.pZ (cL true []) (K _) (F _) 60 _ 1 (by decide) _ (s1:=ju N t n m i []) (O6 N t n m i) (IV N t n m i) (by rw [aaa,hin,Me hi];rfl) ?_
   refine TrX.seq (s1:=ju N t n m i [(7,.bool true)]) (TrX.b8 ?_ (by simp)) (TrX.aR (cL true [(52,false)]) (K _) (F _) 60 _ 0 (aaf _) _ (YM N t n m i true) (SA N t n m i true) rfl)
   rw [I0]
   refine TrX.pZ (cL true []) (K _) (F _) 60 _ 1 (by decide) _ (s1:=ju N t n m i [(26,.bool false)]) (I2 hu) (IW N t n m i) rfl ?_
   refine TrX.cond_false (by kernel_rfl) ?_
   rw [I1]
   refine TrX.pZ (cL true []) (K _) (F _) 60 _ 1 (by decide) _ (s1:=ju N t n m i [(33,.bool true)]) (I3 hp) (IX N t n m i false) rfl ?_
   exact TrX.cond_true (by kernel_rfl) X
theorem SI (hT:cF N t) (hn:n∈sizes) (hN:N=2*n-1) (hi:i<N) (hg:eW t n i=false):
  TrX prog none 0 rT (oH N t n m i) (eN m (lS t i)) .ret (IQ vl) (λ_ _ _=>True):=by
 have K:=eN.keeps m
 have F:=eN.free m
 have hlt:=fo hi
 have hin:=bf hi
 have hle:=hT.le
 unfold eW at hg
 cases hu:(t i).used with
 |false=>
  rw [hu] at hg
  simp only [aeF,aeL] at hg
  refine TrX.weak (TrX.aR (cL true _) (K _) (F _) 60 _ 0 (aaf _) _ (YC N t n m i) (Sq N t n m i) ?_) λ_ _ _ _=>trivial
  rw [aaa,hlt,hin,Me hi,kC hT hi,show (t i).1=false from hu]
  unfold om at hg
  rw [hu] at hg
  rw [hg];rfl
 |true=>
  rw [hu] at hg
  simp only [Bool.not_true,cond_false] at hg
  cases hp:(i%2==0) with
  |false=>
   rw [hp] at hg
   simp only [cond_false] at hg
   refine TrX.weak (TrX.aR (cL true _) (K _) (F _) 60 _ 0 (aaf _) _ (YE N t n m i) (Ss N t n m i) ?_) λ_ _ _ _=>trivial
   rw [aaa,hlt,hin,Me hi,show (t i).1=true from hu,AU,hp,show bF N (λi=>af (aq t i))=true from bq hT,sn hn hN hi,aaa,show dZ (ag λi=>af (aq t i)) i n=false from hg]
   rfl
  |true=>
   rw [hp] at hg
   simp only [aeL] at hg
   have hnm:lS t (i+1)=lU (lS t i) (t i).name (i64.wrap (iq (lS t i) (t i).name+1)):=by simp only [lS,hu,hp,Bool.and_self,aeL]
   rw [hnm] at hg
   have X:=CY (N:=N) (t:=t) (i:=i) (n:=n) (m:=m) (lS t i) _ rfl
   rw [hu,hg] at X
   rw [IY]
   refine TrX.pZ (cL true [(18,true)]) (K _) (F _) 60 _ 0 (aaf _) _ (O5 N t n m i) (IU N t n m i) (by rw [hlt];rfl) ?_
   refine TrX.j7 (TrX.b8 ?_ (by simp)) (by simp)
   rw [IZ]
   refine TrX.pZ (cL true []) (K _) (F _) 60 _ 1 (by decide) _ (s1:=ju N t n m i []) (O6 N t n m i) (IV N t n m i) (by rw [aaa,hin,Me hi];rfl) ?_
   refine TrX.seq (s1:=ju N t n m i [(7,.bool false)]) (TrX.b8 ?_ (by simp)) (TrX.weak (TrX.aR (cL true [(52,true)]) (K (lU (lS t i) (t i).name (i64.wrap (iq (lS t i) (t i).name+1)))) (F _) 60 _ 0 (aaf _) _ (YN N t n m i false) (SB N t n m i false) rfl) λ_ _ _ _=>trivial)
   rw [I0]
   refine TrX.pZ (cL true []) (K _) (F _) 60 _ 1 (by decide) _ (s1:=ju N t n m i [(26,.bool false)]) (I2 hu) (IW N t n m i) rfl ?_
   refine TrX.cond_false (by kernel_rfl) ?_
   rw [I1]
   refine TrX.pZ (cL true []) (K _) (F _) 60 _ 1 (by decide) _ (s1:=ju N t n m i [(33,.bool true)]) (I3 hp) (IX N t n m i false) rfl ?_
   exact TrX.cond_true (by kernel_rfl) X
theorem MS:TrX prog none 0 rT (oH N t n m ((N:Nat):Int)) (eN m (lS t N)) (.exit 0) (Ad N t n []) (eN m (lS t N)):=
 TrX.aR (cL true [(18,false)]) (eN.keeps _ _) (eN.free _ _) 60 _ 0 (aaf _) _ (Be N t n m N) (MQ N t n m N) (by rw [fA (aaf _)];rfl)
theorem MT (hT:cF N t) (hn:n∈sizes) (hN:N=2*n-1) (m:Nat):
  TrX prog none 0 EE (Ad N t n [(4,.nl (.map (some m)))]) (eN m []) .ret (IQ (bif (List.range N).all (eW t n)&&!dy N t (i64.wrap ((n:Int).tdiv 2)).toNat then .nl .nilIface else vl)) (λ_ _ _=>True):=by
 have hs:=bu hn
 have K:=eN.keeps m
 have F:=eN.free m
 have O7:TrX prog none 0 (iB (iB EE)) (Ad N t n [(4,.nl (.map (some m)))]) (eN m []) .normal (oH N t n m ((0:Nat):Int)) (eN m (lS t 0)):=
  TrX.aR (cL true []) (K []) (F []) 60 _ 0 (aaf _) _ (MP N t n m) (IT N t n m) rfl
 rw [SG]
 cases hq:b6 (eW t n) N with
 |some i=>
  obtain ⟨h1,h2,h3⟩:=cX hq
  have hall:(List.range N).all (eW t n)=false:=by
   rw [<-Bool.not_eq_true,aah]
   intro h
   rw [h i (aan.2 h1)] at h2
   cases h2
  rw [hall]
  exact TrX.j7 (TrX.seq O7 (TrX.b8 (nD.loop (nD.for (by simp) (λj:Nat=>oH N t n m ((j:Nat):Int)) (λj=>eN m (lS t j)) i (λj hj=>CZ hT hn hN (by omega) (h3 j hj)) (SI hT hn hN h1 h2))) (by simp))) (by simp)
 |none=>
  have h3:=cS hq
  have hall:(List.range N).all (eW t n)=true:=aah.2 λi hi=>h3 i (aan.1 hi)
  rw [hall,abb]
  refine TrX.seq (TrX.seq O7 (TrX.block (nD.loop (nD.for (by simp) (λj:Nat=>oH N t n m ((j:Nat):Int)) (λj=>eN m (lS t j)) N (λj hj=>CZ hT hn hN hj (h3 j hj)) MS)))) ?_
  have hw:0<=i64.wrap ((n:Int).tdiv 2)/\i64.wrap ((n:Int).tdiv 2)<=71:=by
   have:(n:Int).tdiv 2=((n/2:Nat):Int):=rfl
   rw [this,cg (by omega) (by omega)]
   omega
  cases he:dy N t (i64.wrap ((n:Int).tdiv 2)).toNat with
  |true=>
   refine TrX.weak (TrX.aR (cL true [(58,true)]) (K _) (F _) 60 _ 0 (aaf _) _ (YQ N t n) (SE N t n) ?_) λ_ _ _ _=>trivial
   rw [show bF N (λi=>af (aq t i))=true from bq hT,Me hT.le,Me hw.1,Me hw.2,show dy N (ag λi=>af (aq t i)) (i64.wrap ((n:Int).tdiv 2)).toNat=true from he]
   rfl
  |false=>
   refine TrX.weak (TrX.aR (cL true [(58,false)]) (K _) (F _) 60 _ 0 (aaf _) _ (YP N t n) (SD N t n) ?_) λ_ _ _ _=>trivial
   rw [show bF N (λi=>af (aq t i))=true from bq hT,Me hT.le,Me hw.1,Me hw.2,show dy N (ag λi=>af (aq t i)) (i64.wrap ((n:Int).tdiv 2)).toNat=false from he]
   rfl
theorem vm:((List.range 72).all λN=>aO (N:Nat)==0||sizes.any λn=>aO (N:Nat)==(n:Nat)&&decide (N=2*n-1))=true:=by decide+kernel
theorem iG (hN:N<=71) (h:(aO N==0)=false):∃n∈sizes,aO N=(n:Int)/\N=2*n-1:=by
 have g:=aah.1 vm N (aan.2 (by omega))
 rw [h,Bool.false_or] at g
 obtain ⟨n,hn,g⟩:=aaT.1 g
 rw [aac,aaS,aab] at g
 exact ⟨n,hn,g⟩
theorem I4 (hT:cF N t):ai prog 77 [MM N t] [] (bif aM N t then .nl .nilIface else vl) []:=by
 unfold aM
 cases h0:(aO N==0) with
 |true=>exact aI (cL true [(12,true)]) 60 func77 (MN N t) (by rw [h0];rfl) rfl
 |false=>
  obtain ⟨n,hn,hv,hN⟩:=iG hT.le h0
  have hh:ru (λ_ _ _=>True):=λ_ _ _ _ _ _ _ _ _ _ _=>trivial
  have key:TrX prog none 0 uh ⟨aD f77.ntmps [MM N t],[],true⟩ (λ_ _ _=>True) .ret (IQ (bif (List.range N).all (eW t n)&&!dy N t (i64.wrap ((n:Int).tdiv 2)).toNat then .nl .nilIface else vl)) (λ_ _ _=>True):=by
   rw [SH]
   refine TrX.pZ (cL true [(12,false)]) hh (λ_ _ _ _ _=>trivial) 60 _ 0 (aaf _) _ (s1:=Ad N t n []) (by have:=MO N t;rw [hv] at this;exact this) (IS N t) (by rw [h0];rfl) ?_
   refine J3.region 4 (F:=λm=>Ad N t n [(4,.nl (.map (some m)))]) (G:=λm=>eN m []) ?_ λm=>MT hT hn hN m
   rw [show List.range (opsOf (iB (ej (ej (ej uh))))).size=[0]++[1] by kernel_rfl]
   exact J3.append (J3.make (dst:=some 14) (t:=170) (by kernel_rfl) (by kernel_rfl)) λm=>OX.ED (cL true []) (eN.keeps m []) (eN.free m []) 60 _ 0 (aaf _) _ (YA N t n m) (So N t n m) rfl
  have h2:∀(b:Bool) (v:SV),iD prog (IQ v).t (IQ v).h f77.results.toList=some ([v],true):=λ_ v=>by kernel_rfl
  rw [hv,aaa,aeF,abb]
  exact ai.F1 (args:=[MM N t]) (h:=[]) (s:=IQ _) func77 (c:=uh) (by kernel_rfl) (.inl rfl) (key.to λ_ _ _=>trivial) (h2 true _)
end
def tM (b:Bool):Entry prog:=.val 77 _ func77 (by decide) rfl true 0 (λvs=>match vs with
 | [.aJ false 99 N g]=>some (bif b then .nl .nilIface else vl,[],bF N g&&decide (N<=71)&&(aM N (ag g)==b))
 |_=>none) λvs v new e=>by
 split at e
 ·simp only [No,aae,aac,aab,aaS] at e
  obtain ⟨rfl,rfl,⟨h1,h2⟩,h3⟩:=e
  rw [<-h3]
  exact ai.conv (I4 (cF.of h1 h2)) ⟨VE.tree h1,trivial⟩ trivial (VE.refl _) trivial
 ·cases e
end Go.Proofs.YthlnlcijnoadcaaGreatDoor.Tr
