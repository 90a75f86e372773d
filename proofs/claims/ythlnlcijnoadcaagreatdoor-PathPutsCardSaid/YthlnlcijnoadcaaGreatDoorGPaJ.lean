/- This file holds the texts PaI, PaJ, a section each. No conditions beyond those in the theorems. -/
import Derived.Test.YthlnlcijnoadcaaGreatDoorGPaH
import Derived.Test.YthlnlcijnoadcaaGreatDoorGMkL
import Derived.Test.YthlnlcijnoadcaaGreatDoorGTsN
noncomputable section
open Go.Proofs.Tryz
open Go.IntKind (i64 u8 u64 u32)
set_option linter.all false
set_option maxRecDepth 100000
section
namespace Go.Sy
open Go
section
variable {P:Program}
theorem ai.Hf {f:FuncId} {z n:Nat} {g:Nat->List SV} {v:SV} {ex:Bool} {a:Int} (k:ai P f [.aJ false z n λi=>af (g i),.int .i64 a] [] v []) (hs:eB v=false) (hr:jm (λb=>b+1) v=v):ai P f [.bK 0 z n n ex,.int .i64 a] [.b [.rows z n g]] v [.b [.rows z n g]]:=λB e w args' hB hl R=>by
 refine (mZ k (h:=[.b [.rows z n g]]) (vs:=[.bK 0 z n n ex,.int .i64 a]) (t:=true) ?_ (λ_=>⟨hs,λb hb=>by cases hb⟩) hl R (j:=1) (.inl rfl)).mono ?_
 ·simp [ja,bB,aa]
 ·rintro en w' ⟨v',rfl,e2,h1,h2,h3⟩
  rw [hr] at h1
  refine ⟨v',rfl,e2,h3.m,h1,?_⟩
  have:bI [Blk.b [.rows z n g]] 1 (([]:List Blk).map (P2 1))=[.b [.rows z n g]]:=by simp [bI]
  rw [this] at h2;exact h2
theorem PE.three (z:Nat) {a b c:List SV} {g:Nat->List SV} (ha:av a=z) (hb:av b=z) (hc:av c=z) (ka:cO a=true) (kb:cO b=true) (kc:cO c=true) (h0:g 0=a) (h1:g 1=b) (h2:g 2=c):PE (a++(b++c)) [.rows z 3 g]:=by
 refine ⟨by simp [av,gS,c8,ha,hb,hc];omega,λe ys q=>?_⟩
 obtain ⟨y0,yr,rfl,q0,qr⟩:=q.split
 obtain ⟨y1,y2,rfl,q1,q2⟩:=qr.split
 have l0:=q0.length
 have l1:=q1.length
 have l2:=q2.length
 refine PR.fN.2 ⟨y0++(y1++y2),[],by simp;omega,λi hi=>?_,rfl,by simp⟩
 rcases i with _|_|_|i
 ·rw [Nat.zero_mul,adN,List.take_left' (by omega),h0];exact q0.closed ka
 ·rw [show (0+1)*z=z by omega,List.drop_left' (by omega),List.take_left' (by omega),h1];exact q1.closed kb
 ·rw [show (0+1+1)*z=z+z by omega, <-aaE,List.drop_left' (by simp;omega),aao (by omega),h2];exact q2.closed kc
 ·omega
theorem PE.Lj (z:Nat) {a b c:List SV} {g:Nat->List SV} (ha:av a=z) (hb:av b=z) (hc:av c=z) (ka:cO a=true) (kb:cO b=true) (kc:cO c=true) (h0:g 0=a) (h1:g 1=b) (h2:g 2=c):PE [.rows z 3 g] (a++(b++c)):=by
 refine ⟨by simp [av,gS,c8,ha,hb,hc];omega,λe ys q=>?_⟩
 obtain ⟨us,zs,l,r,h3,rfl⟩:=PR.fN.1 q
 rw [PR] at h3;subst h3
 rw [aaz]
 have up:∀{ps:List SV} {ys:List Value},cO ps=true->PR ⟨λ_=>none,e.z,e.n0,[],λ_=>none⟩ ps ys->PR e ps ys:=λ{ps ys} hc h=>PR.mono' (e:=⟨λ_=>none,e.z,e.n0,[],λ_=>none⟩) (e':=e) (λ_ _ h=>h) (aaf _) ps ys (λj p hu _=>by rw [dG hc] at hu;cases hu) h
 have r0:=r 0 (by omega)
 have r1:=r 1 (by omega)
 have r2:=r 2 (by omega)
 rw [h0,Nat.zero_mul,adN] at r0
 rw [h1,Nat.one_mul] at r1
 rw [h2,show 2*z=z+z by omega,aao (by simp;omega)] at r2
 have e1:us=us.take z++((us.drop z).take z++us.drop (z+z)):=by
  rw [<-aa4,abr,abr]
 rw [e1]
 exact (up ka r0).append ((up kb r1).append (up kc r2))
end
end Go.Sy
namespace Go.Proofs.YthlnlcijnoadcaaGreatDoor.Pa
open Go Go.Sy Tr Mk
def JZ:Code:=aP f14
def Ea (N:Nat) (t:Nat->aj) (i:Int):St:=⟨slotsOf 21 [(5,.aJ false 99 N (aq t)),(6,.int .i64 N),(7,.int .i64 i)],[],true⟩
theorem Ll (N:Nat) (t:Nat->aj):aA (ah [5,6,7] 0 ((aE prog (jo []) 60 0 2 (atoms JZ) ⟨aD f14.ntmps [.aJ false 99 N (aq t)],[],true⟩).map λs=>(Exit.normal,s)))=some (.normal,(Ea N t 0).t,[]):=by kernel_rfl
theorem Hg (N:Nat) (t:Nat->aj):aZ (ah [5,6,7] 0 ((aE prog (jo []) 60 0 2 (atoms JZ) ⟨aD f14.ntmps [.aJ false 99 N (aq t)],[],true⟩).map λs=>(Exit.normal,s)))=(true):=by kernel_rfl
theorem XE (N:Nat) (t:Nat->aj) (i:Int):aA (ah [5,6,7] 0 (exec prog (jo [(8,true),(13,false),(18,false)]) 60 0 (inner (inner (au 2 JZ))) (Ea N t i)))=some (.normal,(Ea N t (i64.wrap (i+1))).t,[]):=by kernel_rfl
theorem QT (N:Nat) (t:Nat->aj) (i:Int):aZ (ah [5,6,7] 0 (exec prog (jo [(8,true),(13,false),(18,false)]) 60 0 (inner (inner (au 2 JZ))) (Ea N t i)))=(aa (aa (aa (aa (aa true (decide (i<((N:Nat):Int)))) (aX i N)) (true&&(decide (i.toNat<N)&&true))) !decide (i>20)) !decide ((((t i.toNat).un.length:Nat):Int)>50)):=by kernel_rfl
theorem adg (N:Nat) (t:Nat->aj) (i:Int):aA (ah [2] 0 (exec prog (jo [(8,true),(13,true)]) 60 0 (inner (inner (au 2 JZ))) (Ea N t i)))=some (.ret,(rK 21 2 true).t,[]):=by kernel_rfl
theorem XF (N:Nat) (t:Nat->aj) (i:Int):aZ (ah [2] 0 (exec prog (jo [(8,true),(13,true)]) 60 0 (inner (inner (au 2 JZ))) (Ea N t i)))=(aa (aa (aa (aa true (decide (i<((N:Nat):Int)))) (aX i N)) (true&&(decide (i.toNat<N)&&true))) (decide (i>20))):=by kernel_rfl
theorem adh (N:Nat) (t:Nat->aj) (i:Int):aA (ah [2] 0 (exec prog (jo [(8,true),(13,false),(18,true)]) 60 0 (inner (inner (au 2 JZ))) (Ea N t i)))=some (.ret,(rK 21 2 true).t,[]):=by kernel_rfl
theorem XG (N:Nat) (t:Nat->aj) (i:Int):aZ (ah [2] 0 (exec prog (jo [(8,true),(13,false),(18,true)]) 60 0 (inner (inner (au 2 JZ))) (Ea N t i)))=(aa (aa (aa (aa (aa true (decide (i<((N:Nat):Int)))) (aX i N)) (true&&(decide (i.toNat<N)&&true))) !decide (i>20)) (decide ((((t i.toNat).un.length:Nat):Int)>50))):=by kernel_rfl
theorem QU (N:Nat) (t:Nat->aj) (i:Int):aA (ah [] 0 (exec prog (jo [(8,false)]) 60 0 (inner (inner (au 2 JZ))) (Ea N t i)))=some (.exit 0,slotsOf 21 [],[]):=by kernel_rfl
theorem Lm (N:Nat) (t:Nat->aj) (i:Int):aZ (ah [] 0 (exec prog (jo [(8,false)]) 60 0 (inner (inner (au 2 JZ))) (Ea N t i)))=(aa true !decide (i<((N:Nat):Int))):=by kernel_rfl
section
variable {N M:Nat} {t u:Nat->aj}
def OB (t:Nat->aj) (i:Nat):Bool:=!decide ((i:Int)>20)&&!decide (((t i).un.length:Int)>50)
def fY (N:Nat) (t:Nat->aj):Bool:=bP (OB t) N (λ_=>true) false
theorem Eb:ai prog 14 [.aJ false 99 N (aq t)] [] (.bool (fY N t)) []:=by
 have key:=ai.scan (P:=prog) (args:=[.aJ false 99 N (aq t)]) (h:=[]) (h':=[]) func14 rfl 2 0 (λj:Nat=>Ea N t ((j:Nat):Int)) (OB t) N
  (λx s' g=>aV.bk (cK []) 60 2 _ 0 (by simp) (s1:=Ea N t ((0:Nat):Int)) _ (Ll N t) (Hg N t) rfl (by decide) rfl g) (by decide) (by kernel_rfl)
  (λj hj hb _=>?_) (λi=>rK 21 2 true) (λi=>[.bool true]) (λj hj hb _=>⟨?_,rfl,rfl⟩) (sE:=⟨slotsOf 21 [],[],true⟩) (uM:=rK 21 2 false) (vE:=[.bool false]) (xE:=.ret) (λ_=>?_) (λ_=>⟨?_,.inl rfl,rfl,rfl⟩)
 ·rw [bX (g:=SV.bool) (vF:=λ_:Nat=>true) (vE:=false)] at key
  exact key
 ·unfold OB at hb
  obtain ⟨h1,h2⟩:=abS.1 hb
  have h20:¬((j:Int)>20):=by
   intro q
   rw [Me q] at h1
   cases h1
  have e:=XE N t j
  rw [cq (by omega)] at e
  exact Tr.aR (cK [(8,true),(13,false),(18,false)]) 60 _ 0 (aaf _) (s':=Ea N t ((j+1:Nat):Int)) _ e (QT N t j) (by
   rw [aaa,fo hj,bf hj,Me hj,h1,h2];rfl)
 ·cases h1:decide ((j:Int)>20) with
  |true=>exact Tr.aR (cK [(8,true),(13,true)]) 60 _ 0 (aaf _) (s':=rK 21 2 true) _ (adg N t j) (XF N t j) (by rw [aaa,fo hj,bf hj,Me hj,h1];rfl)
  |false=>
   unfold OB at hb
   rw [h1] at hb
   have h2:decide (((t j).un.length:Int)>50)=true:=by simpa using hb
   exact Tr.aR (cK [(8,true),(13,false),(18,true)]) 60 _ 0 (aaf _) (s':=rK 21 2 true) _ (adh N t j) (XG N t j) (by rw [aaa,fo hj,bf hj,Me hj,h1,h2];rfl)
 ·exact Tr.aR (cK [(8,false)]) 60 _ 0 (aaf _) (s':=⟨slotsOf 21 [],[],true⟩) _ (QU N t _) (Lm N t _) (by rw [fA (aaf _)];rfl)
 ·exact aV.rest (cK []) 60 (by kernel_rfl) rfl
theorem Ec (h:fY N t=false):N<=21:=by
 unfold fY bP at h
 cases hq:b6 (OB t) N with
 |some j=>rw [hq] at h;cases h
 |none=>
  refine Classical.byContradiction λg=>?_
  have:=cS hq 21 (by omega)
  unfold OB at this
  rw [Me (show ((21:Nat):Int)>20 by omega)] at this
  cases this
theorem Ed (h:fY N t=false):∀i,i<N->(t i).un.length<=274877906944:=by
 unfold fY bP at h
 cases hq:b6 (OB t) N with
 |some j=>rw [hq] at h;cases h
 |none=>
  intro i hi
  have:=cS hq i hi
  unfold OB at this
  have h2:=(abS.1 this).2
  refine Classical.byContradiction λg=>?_
  rw [Me (show ((t i).un.length:Int)>50 by omega)] at h2
  cases h2
end
def Ln:Entry prog:=.val 14 _ func14 (by decide) rfl true 0 (λvs=>match vs with
 | [.aJ false 99 N g]=>some (.bool (fY N (ag g)),[],qw N g)
 |_=>none) λvs v new e=>by
 split at e
 ·rename_i N g
  simp only [No,aae] at e
  obtain ⟨rfl,rfl,h1⟩:=e
  exact ai.conv (Eb (t:=ag g)) ⟨VE.Gy λi hi=>vN (aah.1 h1 i (aan.2 hi)),trivial⟩ trivial (VE.refl _) trivial
 ·cases e
abbrev tA:Nat->aj:=λ_=>AW true 1 Mk.cH Mk.cH Mk.cH
abbrev tB:Nat->aj:=λi=>match i with
 |0=>AW true 1 Mk.cH Mk.cH Mk.cH
 |1=>AW false 0 Mk.cH Mk.cH Mk.cH
 |_=>AW true 2 Mk.cH Mk.cH Mk.cH
def vh (t:Nat->aj):Nat->List SV:=λi=>nC (t i).used (t i).name (t i).key (t i).sign (t i).par
def Hh:List SV:=nC true 1 Mk.cH Mk.cH Mk.cH++(nC false 0 Mk.cH Mk.cH Mk.cH++nC true 2 Mk.cH Mk.cH Mk.cH)
def wyC:bO:=mk (P:=prog) [tW 0] [] (uT [])
theorem Hi:ak prog wyC:=az _ aL.nil _ _
theorem Lo:ai prog 25 [.aJ false 99 1 (aq tA),.int .i64 0] [] (.bC [cT,.nl .nilIface]) []:=ai.bg Hi func25 (n:=60) (by kernel_rfl)
theorem Lq:ai prog 25 [.aJ false 99 3 (aq tB),.int .i64 1] [] (.bC [.ro true .i64 [1],.nl .nilIface]) []:=by
 have k:ai prog 25 [.aJ false 99 3 (aq tB),.int .i64 1] [] (.bC [.sl 2 0 0 1 1 1 false true,.nl .nilIface]) [.b [.int .i64 1,.int .i64 2,.int .i64 0],.b [.ints .i64 1 [1]],.b [.ints .i64 1 [1]]]:=ai.bg Hi func25 (n:=60) (by kernel_rfl)
 have k:=ai.yN (v:=.bC [.sl 2 0 0 1 1 1 false true,.nl .nilIface]) (u:=.bC [.sl 0 0 0 1 1 1 false true,.nl .nilIface]) (new:=[.b [.ints .i64 1 [1]]]) [2] k rfl
 exact k.fz (u:=.bC [.ro true .i64 [1],.nl .nilIface]) (h2:=[]) 0 0 (aap _) (aap _) rfl (by simp [lW,lQ,lR,aC])
theorem Cu (t:Nat->aj) (hu:∀i,(t i).un=[]) (n:Nat):VE (.aJ false 99 n λi=>af (vh t i)) (.aJ false 99 n (aq t)):=λe x hx=>by
 rcases hx with h|⟨m,o,cap,c,ty,fr,h1,h2,h3,h4,h5,h6⟩
 ·exact .inl h
 ·refine .inr ⟨m,o,cap,c,ty,fr,h1,h2,h3,λi hi=>?_,h5,h6⟩
  have pe:PE (vh t i) (t i).cells:=by
   have q:PE (nC (t i).used (t i).name (t i).key (t i).sign (t i).par) (AW (t i).used (t i).name (t i).key (t i).sign (t i).par).cells:=PE.last (ps:=[.bool (t i).used,.int .i64 (t i).name,.ints .u8 32 (t i).key,.ints .u8 32 (t i).sign,.ints .u8 32 (t i).par]) rfl rfl (VE.nN false .i64)
   have e:(AW (t i).used (t i).name (t i).key (t i).sign (t i).par)=t i:=by unfold AW;rw [<-hu i]
   rw [e] at q;exact q
  exact pe.2 _ _ (h4 i hi)
theorem Hj:ai prog 25 [.sl 0 0 0 99 1 1 true true,.int .i64 0] [.b (nC true 1 Mk.cH Mk.cH Mk.cH)] (.bC [cT,.nl .nilIface]) [.b (nC true 1 Mk.cH Mk.cH Mk.cH)]:=by
 have k:=ai.Hf (ex:=true) (g:=vh tA) (ai.conv Lo ⟨Cu tA (λ_=>rfl) 1,VE.refl _,trivial⟩ trivial (VE.refl _) trivial) rfl rfl
 have p1:PE (nC true 1 Mk.cH Mk.cH Mk.cH) [.rows 99 1 (vh tA)]:=PE.one 99 rfl rfl (PE.refl _)
 have p2:PE [.rows 99 1 (vh tA)] (nC true 1 Mk.cH Mk.cH Mk.cH):=PE.Wn 99 rfl rfl
 exact ai.conv k ⟨VE.mb 0 99 1 1 true true,VE.refl _,trivial⟩ ⟨p1,trivial⟩ (VE.refl _) ⟨p2,trivial⟩
theorem Hl:ai prog 25 [.sl 0 0 0 99 3 3 false true,.int .i64 1] [.b Hh] (.bC [.ro true .i64 [1],.nl .nilIface]) [.b Hh]:=by
 have k:=ai.Hf (ex:=false) (g:=vh tB) (ai.conv Lq ⟨Cu tB (λi=>by rcases i with _|_|i<;>rfl) 3,VE.refl _,trivial⟩ trivial (VE.refl _) trivial) rfl rfl
 have p1:PE Hh [.rows 99 3 (vh tB)]:=PE.three (a:=nC true 1 Mk.cH Mk.cH Mk.cH) (b:=nC false 0 Mk.cH Mk.cH Mk.cH) (c:=nC true 2 Mk.cH Mk.cH Mk.cH) (g:=vh tB) 99 rfl rfl rfl rfl rfl rfl rfl rfl rfl
 have p2:PE [.rows 99 3 (vh tB)] Hh:=PE.Lj (a:=nC true 1 Mk.cH Mk.cH Mk.cH) (b:=nC false 0 Mk.cH Mk.cH Mk.cH) (c:=nC true 2 Mk.cH Mk.cH Mk.cH) (g:=vh tB) 99 rfl rfl rfl rfl rfl rfl rfl rfl rfl
 exact ai.conv k ⟨VE.mb 0 99 3 3 false true,VE.refl _,trivial⟩ ⟨p1,trivial⟩ (VE.refl _) ⟨p2,trivial⟩
def Cg:List SV->List Nat
 | .sl b _ _ _ _ _ _ _::_=>[b]
 |_=>[]
def svB:SV->SV->Bool
 | .bool a,.bool b=>a==b
 | .int k a,.int k' b=>decide (k=k')&&decide (a=b)
 | .ints k n l,.ints k' n' l'=>decide (k=k')&&decide (n=n')&&decide (l=l')
 | .nl (.slice none 0 0),.nl (.slice none 0 0)=>true
 |_,_=>false
theorem QV {a b:SV} (h:svB a b=true):a=b:=by
 unfold svB at h
 split at h
 ·rw [eq_of_beq h]
 ·simp only [aac,aab] at h;rw [h.1,h.2]
 ·simp only [aac,aab] at h;rw [h.1.1,h.1.2,h.2]
 ·rfl
 ·cases h
def Ho:List SV->List SV->Bool
 | [],[]=>true
 |a::l,b::m=>svB a b&&Ho l m
 |_,_=>false
theorem xA:∀{a b:List SV},Ho a b=true->a=b
 | [],[],_=>rfl
 |a::l,b::m,h=>by
  rw [Ho,aac] at h
  rw [QV h.1,xA h.2]
 | [],_::_,h=>by cases h
 |_::_,[],h=>by cases h
def XH:Entry prog:=.rdm 25 _ func25 (by decide) rfl Cg (λus h0=>match us,h0 with
 | [.sl 0 0 0 99 1 1 true true,.int .i64 a],[.b ps]=>some (.bC [cT,.nl .nilIface],Ho ps (nC true 1 Mk.cH Mk.cH Mk.cH)&&decide (a=0))
 | [.sl 0 0 0 99 3 3 false true,.int .i64 a],[.b ps]=>some (.bC [.ro true .i64 [1],.nl .nilIface],Ho ps Hh&&decide (a=1))
 |_,_=>none) λus h0 v e=>by
 split at e
 ·simp only [No,aae,aac,aab] at e
  obtain ⟨rfl,h,rfl⟩:=e
  rw [xA h]
  exact Hj
 ·simp only [No,aae,aac,aab] at e
  obtain ⟨rfl,h,rfl⟩:=e
  rw [xA h]
  exact Hl
 ·cases e
def KY:bO:=mk (P:=prog) [XH] [] (uT [])
theorem Cf:ak prog KY:=az _ aL.nil _ _
theorem Lr:(aG prog KY 60 f13 [] []).map (λx=>(x.1,x.2.2))=some (.bool true,true):=by kernel_rfl
theorem A3:ai prog 13 [] [] (.bool true) []:=aI Cf 60 func13 Lr rfl rfl
end Go.Proofs.YthlnlcijnoadcaaGreatDoor.Pa
end
section
namespace Go.Proofs.YthlnlcijnoadcaaGreatDoor.Pa
open Go Go.Sy Tr Mk
def Ai (g:Nat->List SV):Nat->Nat:=λk=>match g k with
 | [_,.aJ _ _ m _]=>m
 |_=>0
attribute [local instance low] Classical.propDecidable
def Cv (N:Nat) (t:Nat->aj) (i:Int) (u:Bool) (nm:Int) (k sg p un:List Int) (S:Nat) (ks:Nat->List Int) (b:Nat):Bool:=decide (N<=71)&&e9 N t&&decide (sg.length=32)&&decide (kA k)&&decide (p.length=32)&&decide (S<=2^37)&&Aa S ks&&(G1 N t i u nm sg un S ks k p==b)
def adj (b:Nat):Entry prog:=.val 53 _ func53 (by decide) rfl true 0 (λvs=>match vs with
 | [.aJ false 99 N g,.int .i64 i,.agg [.bool u,.int .i64 nm,.ints .u8 32 k,.ints .u8 32 sg,.ints .u8 32 p,.ro false .i64 un,.aJ false 33 S gs]]=>some (puV b N (ag g) i (gY gs) k,[],bF N g&&decide (gs=gw (gY gs) (Ai gs))&&Cv N (ag g) i u nm k sg p un S (gY gs) b)
 |_=>none) λvs v new e=>by
 split at e
 ·simp only [No,aae,aac,aab] at e
  obtain ⟨rfl,rfl,⟨h1,h2⟩,h3⟩:=e
  unfold Cv at h3
  simp only [aac,aab,aaS] at h3
  obtain ⟨⟨⟨⟨⟨⟨⟨q1,q2⟩,q3⟩,q4⟩,q5⟩,q6⟩,q7⟩,rfl⟩:=h3
  rw [h2]
  exact ai.conv (QM (cF.of h1 q1) q2 q3 q4.1 q5 q6 q7) ⟨VE.tree h1,VE.refl _,VE.refl _,trivial⟩ trivial (VE.refl _) trivial
 ·cases e
def XI (b:Nat):Entry prog:=.val 16 _ func16 (by decide) rfl true 0 (λvs=>match vs with
 | [.aJ false 99 N g,.int .i64 i,.agg [.bool u,.int .i64 nm,.ints .u8 32 k,.ints .u8 32 sg,.ints .u8 32 p,.ro false .i64 un,.aJ false 33 S gs]]=>some (rpV b N (ag g) i (gY gs) k,[],bF N g&&decide (gs=gw (gY gs) (Ai gs))&&Cv N (ag g) i u nm k sg p un S (gY gs) b&&(aM N (ag g)==cN N (ag g)))
 |_=>none) λvs v new e=>by
 split at e
 ·simp only [No,aae,aac,aab,aaS] at e
  obtain ⟨rfl,rfl,⟨⟨h1,h2⟩,h3⟩,h4⟩:=e
  unfold Cv at h3
  simp only [aac,aab,aaS] at h3
  obtain ⟨⟨⟨⟨⟨⟨⟨q1,q2⟩,q3⟩,q4⟩,q5⟩,q6⟩,q7⟩,rfl⟩:=h3
  rw [h2]
  exact ai.conv (Li (cF.of h1 q1) h4 q2 q3 q4 q5 q6 q7) ⟨VE.tree h1,VE.refl _,VE.refl _,trivial⟩ trivial (VE.refl _) trivial
 ·cases e
def Ls:Entry prog:=.val 17 _ func17 (by decide) rfl true 0 (λvs=>match vs with
 | [.nl (.slice none 0 0),.nl (.slice none 0 0)]=>some (.bool true,[],true)
 |_=>none) λvs v new e=>by
 split at e
 ·simp only [No,aae] at e
  obtain ⟨rfl,rfl,_⟩:=e
  exact ai.bg gB func17 (n:=60) (by kernel_rfl)
 ·cases e
def Hp:Entry prog:=.val 13 _ func13 (by decide) rfl false 0 (λvs=>match vs with
 | []=>some (.bool true,[],true)
 |_=>none) λvs v new e=>by
 split at e
 ·simp only [No,aae] at e
  obtain ⟨rfl,rfl,_⟩:=e
  exact A3
 ·cases e
def XJ:List (FuncId×Func):=[(18,f18),(15,f15)]
theorem Lt:aL prog XJ:=aL.cons func18 (by decide) (aL.cons func15 (by decide) aL.nil)
def jC (b:Nat) (l:List (Nat×Bool)):bO:=mk (P:=prog) [Hp,Ln,adj b,XI b,match b with|0=>QW|_=>Ls,Ow true] XJ (uT l)
theorem ud (b:Nat) (l:List (Nat×Bool)):ak prog (jC b l):=az _ Lt _ _
theorem j_a (N:Nat) (t:Nat->aj) (i:Int) (u:Bool) (nm:Int) (k sg p un:List Int) (S:Nat) (ks:Nat->List Int) (sv:Nat->Nat):(aG prog (jC 0 [(15,true),(21,true),(27,true)]) 60 f3 [.aJ false 99 N (aq t),.int .i64 i,.agg (lu u nm k sg p un S ks sv)] []).map (λx=>(x.1,x.2.2))=some (.bool true,aa (aa true (aa true (qw N λi=>af (aq t i)))) (fY N (ag λi=>af (aq t i)))):=by kernel_rfl
theorem j_b (N:Nat) (t:Nat->aj) (i:Int) (u:Bool) (nm:Int) (k sg p un:List Int) (S:Nat) (ks:Nat->List Int) (sv:Nat->Nat):(aG prog (jC 0 [(15,false),(21,true),(27,true)]) 60 f3 [.aJ false 99 N (aq t),.int .i64 i,.agg (lu u nm k sg p un S ks sv)] []).map (λx=>(x.1,x.2.2))=some (.bool true,aa (aa (aa true (aa true (qw N λi=>af (aq t i)))) !fY N (ag λi=>af (aq t i))) (decide (((S:Nat):Int)>10))):=by kernel_rfl
theorem j_c (N:Nat) (t:Nat->aj) (i:Int) (u:Bool) (nm:Int) (k sg p un:List Int) (S:Nat) (ks:Nat->List Int) (sv:Nat->Nat):(aG prog (jC 0 [(15,false),(21,false),(27,true)]) 60 f3 [.aJ false 99 N (aq t),.int .i64 i,.agg (lu u nm k sg p un S ks sv)] []).map (λx=>(x.1,x.2.2))=some (.bool true,aa (aa (aa (aa true (aa true (qw N λi=>af (aq t i)))) !fY N (ag λi=>af (aq t i))) !decide (((S:Nat):Int)>10)) (decide (((un.length:Nat):Int)>50))):=by kernel_rfl
theorem j_0 (N:Nat) (t:Nat->aj) (i:Int) (u:Bool) (nm:Int) (k sg p un:List Int) (S:Nat) (ks:Nat->List Int) (sv:Nat->Nat):(aG prog (jC 0 [(15,false),(21,false),(27,false),(45,true)]) 60 f3 [.aJ false 99 N (aq t),.int .i64 i,.agg (lu u nm k sg p un S ks sv)] []).map (λx=>(x.1,x.2.2))=some (.bool true,aa (aa (aa (aa (aa (aa (aa (aa (aa true (aa true (qw N λi=>af (aq t i)))) !fY N (ag λi=>af (aq t i))) !decide (((S:Nat):Int)>10)) !decide (((un.length:Nat):Int)>50)) (aa true (aa true ((bF N λi=>af (aq t i))&&decide ((λi=>af (gw ks sv i))=gw (gY λi=>af (gw ks sv i)) (Ai λi=>af (gw ks sv i)))&&Cv N (ag λi=>af (aq t i)) i u nm k sg p un S (gY λi=>af (gw ks sv i)) 0)))) (aa true ((bF N λi=>af (aq t i))&&decide ((λi=>af (gw ks sv i))=gw (gY λi=>af (gw ks sv i)) (Ai λi=>af (gw ks sv i)))&&Cv N (ag λi=>af (aq t i)) i u nm k sg p un S (gY λi=>af (gw ks sv i)) 0&&aM N (ag λi=>af (aq t i))==cN N (ag λi=>af (aq t i))))) (aa true (((bF N λi_1=>af (aq (iw N (ag λi=>af (aq t i)) i (gY λi=>af (gw ks sv i)) k) i_1))&&bF N λi_1=>af (aq (iw N (ag λi=>af (aq t i)) i (gY λi=>af (gw ks sv i)) k) i_1))&&decide (N<=71)&&decide (N<=71)))) (Tr.tT N N (ag λi_1=>af (aq (iw N (ag λi=>af (aq t i)) i (gY λi=>af (gw ks sv i)) k) i_1)) (ag λi_1=>af (aq (iw N (ag λi=>af (aq t i)) i (gY λi=>af (gw ks sv i)) k) i_1)))) (aa true ((bF N λi_1=>af (aq (iw N (ag λi=>af (aq t i)) i (gY λi=>af (gw ks sv i)) k) i_1))&&decide (N<=71)&&cN N (ag λi_1=>af (aq (iw N (ag λi=>af (aq t i)) i (gY λi=>af (gw ks sv i)) k) i_1))==true))):=by kernel_rfl
theorem j_1 (N:Nat) (t:Nat->aj) (i:Int) (u:Bool) (nm:Int) (k sg p un:List Int) (S:Nat) (ks:Nat->List Int) (sv:Nat->Nat):(aG prog (jC 1 [(15,false),(21,false),(27,false)]) 60 f3 [.aJ false 99 N (aq t),.int .i64 i,.agg (lu u nm k sg p un S ks sv)] []).map (λx=>(x.1,x.2.2))=some (.bool true,aa (aa (aa (aa (aa (aa true (aa true (qw N λi=>af (aq t i)))) !fY N (ag λi=>af (aq t i))) !decide (((S:Nat):Int)>10)) !decide (((un.length:Nat):Int)>50)) (aa true (aa true ((bF N λi=>af (aq t i))&&decide ((λi=>af (gw ks sv i))=gw (gY λi=>af (gw ks sv i)) (Ai λi=>af (gw ks sv i)))&&Cv N (ag λi=>af (aq t i)) i u nm k sg p un S (gY λi=>af (gw ks sv i)) 1)))) (aa true ((bF N λi=>af (aq t i))&&decide ((λi=>af (gw ks sv i))=gw (gY λi=>af (gw ks sv i)) (Ai λi=>af (gw ks sv i)))&&Cv N (ag λi=>af (aq t i)) i u nm k sg p un S (gY λi=>af (gw ks sv i)) 1&&aM N (ag λi=>af (aq t i))==cN N (ag λi=>af (aq t i))))):=by kernel_rfl
theorem j_2 (N:Nat) (t:Nat->aj) (i:Int) (u:Bool) (nm:Int) (k sg p un:List Int) (S:Nat) (ks:Nat->List Int) (sv:Nat->Nat):(aG prog (jC 2 [(15,false),(21,false),(27,false)]) 60 f3 [.aJ false 99 N (aq t),.int .i64 i,.agg (lu u nm k sg p un S ks sv)] []).map (λx=>(x.1,x.2.2))=some (.bool true,aa (aa (aa (aa (aa (aa true (aa true (qw N λi=>af (aq t i)))) !fY N (ag λi=>af (aq t i))) !decide (((S:Nat):Int)>10)) !decide (((un.length:Nat):Int)>50)) (aa true (aa true ((bF N λi=>af (aq t i))&&decide ((λi=>af (gw ks sv i))=gw (gY λi=>af (gw ks sv i)) (Ai λi=>af (gw ks sv i)))&&Cv N (ag λi=>af (aq t i)) i u nm k sg p un S (gY λi=>af (gw ks sv i)) 2)))) (aa true ((bF N λi=>af (aq t i))&&decide ((λi=>af (gw ks sv i))=gw (gY λi=>af (gw ks sv i)) (Ai λi=>af (gw ks sv i)))&&Cv N (ag λi=>af (aq t i)) i u nm k sg p un S (gY λi=>af (gw ks sv i)) 2&&aM N (ag λi=>af (aq t i))==cN N (ag λi=>af (aq t i))))):=by kernel_rfl
theorem j_3 (N:Nat) (t:Nat->aj) (i:Int) (u:Bool) (nm:Int) (k sg p un:List Int) (S:Nat) (ks:Nat->List Int) (sv:Nat->Nat):(aG prog (jC 3 [(15,false),(21,false),(27,false)]) 60 f3 [.aJ false 99 N (aq t),.int .i64 i,.agg (lu u nm k sg p un S ks sv)] []).map (λx=>(x.1,x.2.2))=some (.bool true,aa (aa (aa (aa (aa (aa true (aa true (qw N λi=>af (aq t i)))) !fY N (ag λi=>af (aq t i))) !decide (((S:Nat):Int)>10)) !decide (((un.length:Nat):Int)>50)) (aa true (aa true ((bF N λi=>af (aq t i))&&decide ((λi=>af (gw ks sv i))=gw (gY λi=>af (gw ks sv i)) (Ai λi=>af (gw ks sv i)))&&Cv N (ag λi=>af (aq t i)) i u nm k sg p un S (gY λi=>af (gw ks sv i)) 3)))) (aa true ((bF N λi=>af (aq t i))&&decide ((λi=>af (gw ks sv i))=gw (gY λi=>af (gw ks sv i)) (Ai λi=>af (gw ks sv i)))&&Cv N (ag λi=>af (aq t i)) i u nm k sg p un S (gY λi=>af (gw ks sv i)) 3&&aM N (ag λi=>af (aq t i))==cN N (ag λi=>af (aq t i))))):=by kernel_rfl
section
variable {N:Nat} {t:Nat->aj} {i:Int} {u:Bool} {nm:Int} {k sg p un:List Int} {S:Nat} {ks:Nat->List Int} {sv:Nat->Nat}
theorem Hq (hT:cF N t) (hb:e9 N t=true) (h:gm N t i=0) (hk:Aa (iF N t i) ks=true) (hl:kA k):cF N (iw N t i ks k)/\aM N (iw N t i ks k)=true:=by
 obtain ⟨hc,hu,n,j,hn,hj,rfl,hv,hN,gj⟩:=rj hT h
 obtain ⟨hK,hM⟩:=GU (N:=N) (t:=t) hn hj hv
 have hs:=bu hn
 obtain ⟨l1,l2⟩:=tZ hT hb (show 2*j<N by omega)
 have pL:=(xy (t:=t) hn hj hK (xz hk) l1 l2 (iF N t j)).OA hn hj hl (tX t (rN N t j) ks (iF N t j) (iF N t j))
 rw [pP hn hj hK] at pL
 unfold iw
 rw [hv,aaa,aaa]
 exact ⟨pL.tok hn hj hN hT,pL.check hn hj hN hv gj hc⟩
theorem Hr (hT0:qw N (aq t)=true) (hn:∀i,i<N->(t i).OK) (hx:(⟨u,nm,k,sg,p,un⟩:aj).OK) (hks:∀j,j<S->kA (ks j)):ai prog 3 [.aJ false 99 N (aq t),.int .i64 i,.agg (lu u nm k sg p un S ks sv)] [] (.bool true) []:=by
 have z1:qw N (λi=>af (aq t i))=true:=hT0
 have ht:(ag λi=>af (aq t i))=t:=rfl
 cases g1:fY N t with
 |true=>exact aI (ud _ _) 60 func3 (j_a N t i u nm k sg p un S ks sv) (by rw [ht,z1,g1];rfl) rfl
 |false=>
 cases g2:decide (((S:Nat):Int)>10) with
 |true=>exact aI (ud _ _) 60 func3 (j_b N t i u nm k sg p un S ks sv) (by rw [ht,z1,g1,g2];rfl) rfl
 |false=>
 cases g3:decide (((un.length:Nat):Int)>50) with
 |true=>exact aI (ud _ _) 60 func3 (j_c N t i u nm k sg p un S ks sv) (by rw [ht,z1,g1,g2,g3];rfl) rfl
 |false=>
 have hS:S<=10:=by have:=of_decide_eq_false g2;omega
 have hTT:=Lu hT0 (Ed g1)
 have hok:bF N (λi=>af (aq t i))=true:=hTT
 have e1:N<=71:=by have:=Ec g1;omega
 have hT:=cF.of hTT e1
 have hg:(aM N t==cN N t)=true:=aaS.2 (ue (t:=t) e1)
 have hb:e9 N t=true:=KS hn
 have hky:Aa S ks=true:=aah.2 λj hj=>by
  have h:=hks j (aan.1 hj)
  rw [Me h.1,ng h.2];rfl
 have c1:(gY λi=>af (gw ks sv i))=ks:=rfl
 have c2:(Ai λi=>af (gw ks sv i))=sv:=rfl
 have c3:decide ((λi=>af (gw ks sv i))=gw ks sv)=true:=Me rfl
 have hq:∀b,G1 N t i u nm sg un S ks k p=b->Cv N t i u nm k sg p un S ks b=true:=λb h=>by
  unfold Cv
  rw [Me e1,hb,Me hx.sign.1,Me (show kA k from hx.key),Me hx.par.1,Me (show S<=2^37 by omega),hky,h,beq_self_eq_true];rfl
 cases hk:G1 N t i u nm sg un S ks k p with
 |zero=>
  have hw:gm N t i=0/\S=iF N t i:=by
   unfold G1 at hk
   cases w:gm N t i with
   |zero=>
    rw [w] at hk
    cases f:x2 N t i u nm sg un S with
    |false=>simp [f] at hk
    |true=>
     unfold x2 at f
     simp only [aac,aaY,bne_eq_false_iff_eq] at f
     have:=f.2
     exact ⟨rfl,by omega⟩
   |succ w'=>
    rw [w] at hk
    cases w'<;>cases hk
  obtain ⟨r1,r2⟩:=Hq (k:=k) hT hb hw.1 (hw.2▸hky) hx.key
  have a1:bF N (λi_1=>af (aq (iw N t i ks k) i_1))=true:=bq r1
  have a2:(ag λi_1=>af (aq (iw N t i ks k) i_1))=iw N t i ks k:=rfl
  have a3:cN N (iw N t i ks k)=true:=by rw [<-ue (t:=iw N t i ks k) e1];exact r2
  exact aI (ud _ _) 60 func3 (j_0 N t i u nm k sg p un S ks sv) (by rw [ht,c1,c2,c3,z1,g1,g2,g3,hok,hq 0 hk,hg,a1,a2,A4,a3,Me e1];rfl) rfl
 |succ b=>
  cases b with
  |zero=>exact aI (ud _ _) 60 func3 (j_1 N t i u nm k sg p un S ks sv) (by rw [ht,c1,c2,c3,z1,g1,g2,g3,hok,hq 1 hk,hg];rfl) rfl
  |succ b=>
   cases b with
   |zero=>exact aI (ud _ _) 60 func3 (j_2 N t i u nm k sg p un S ks sv) (by rw [ht,c1,c2,c3,z1,g1,g2,g3,hok,hq 2 hk,hg];rfl) rfl
   |succ b=>
    have h3:G1 N t i u nm sg un S ks k p=3:=by
     have:G1 N t i u nm sg un S ks k p<=3:=by
      unfold G1
      split
      ·cases x2 N t i u nm sg un S<;>cases decide ((iw N t i ks k (2*i).toNat).par=p)<;>decide
      ·decide
      ·decide
     omega
    exact aI (ud _ _) 60 func3 (j_3 N t i u nm k sg p un S ks sv) (by rw [ht,c1,c2,c3,z1,g1,g2,g3,hok,hq 3 h3,hg];rfl) rfl
end
end Go.Proofs.YthlnlcijnoadcaaGreatDoor.Pa
end
