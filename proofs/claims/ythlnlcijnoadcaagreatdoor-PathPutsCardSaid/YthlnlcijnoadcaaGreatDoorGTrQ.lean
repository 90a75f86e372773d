/- This file holds the texts TrN, TrP, TrQ, a section each. No conditions beyond those in the theorems. -/
import Derived.Test.YthlnlcijnoadcaaGreatDoorGTrM
noncomputable section
open Go.Proofs.Tryz
open Go.IntKind (i64 u8 u64 u32)
set_option linter.all false
set_option maxRecDepth 100000
section
namespace Go.Sy
open Go
section
variable {P:Program}
theorem ai.SJ {f:FuncId} {args:List SV} {h h1:List Blk} {v:SV} {fl:Bool} {z n:Nat} {g:Nat->List SV} (g1:0<n->ai P f (.aJ fl z n g::args) h v h1)
  (g2:n=0->ai P f (.nl (.slice none 0 0)::args) h v h1) (g3:n=0->∀a c,ai P f (.nl (.slice (some a) 0 c)::args) h v h1):ai P f (.aJ fl z n g::args) h v h1:=by
 rcases Nat.eq_zero_or_pos n with hx|hx
 ·intro B e w args' hB hl R
  obtain ⟨y,zs,h1,h2,rfl⟩:=hl
  rcases h1 with ⟨_,a,cap,rfl,ha⟩|⟨n',o,cap,c,t,fr,rfl,_⟩
  ·cases a with
   |none=>
    obtain rfl:=ha rfl
    exact g2 hx B e w _ hB ⟨.slice none 0 0,_,rfl,h2,rfl⟩ R
   |some a=>exact g3 hx a cap B e w _ hB ⟨_,_,rfl,h2,rfl⟩ R
  ·subst hx
   exact g3 rfl _ cap B e w _ hB ⟨_,_,rfl,h2,rfl⟩ R
 ·exact g1 hx
theorem ai.Gh {f:FuncId} {args:List SV} {h h1:List Blk} {v:SV} {k:IntKind} {xs:List Int} (g1:0<xs.length->ai P f (.ro false k xs::args) h v h1)
  (g2:xs=[]->ai P f (.nl (.slice none 0 0)::args) h v h1) (g3:xs=[]->∀a c,ai P f (.nl (.slice (some a) 0 c)::args) h v h1):ai P f (.ro false k xs::args) h v h1:=by
 by_cases hx:xs=[]
 ·intro B e w args' hB hl R
  obtain ⟨y,zs,h1,h2,rfl⟩:=hl
  rcases h1 with ⟨_,a,cap,rfl,ha⟩|⟨n,o,cap,c,t,fr,rfl,_⟩
  ·cases a with
   |none=>
    obtain rfl:=ha rfl
    exact g2 hx B e w _ hB ⟨.slice none 0 0,_,rfl,h2,rfl⟩ R
   |some a=>exact g3 hx a cap B e w _ hB ⟨_,_,rfl,h2,rfl⟩ R
  ·subst hx
   exact g3 rfl _ cap B e w _ hB ⟨_,_,rfl,h2,rfl⟩ R
 ·exact g1 (List.length_pos_iff.2 hx)
theorem ai.jG {f:FuncId} {args:List SV} {K:IntKind} {l:List Int} {N:Nat} {ex wh:Bool} (g:ai P f args [] (.sl 0 0 0 1 N N ex wh) [.b [.ints K N l]]) (hl:l.length=N):ai P f args [] (.ro true K l) []:=by
 subst hl
 cases wh
 ·have k:=g.fz (u:=.ro true K ((l.drop 0).take l.length)) (h2:=[]) (p:=aa (decide (l.length=l.length)) (([some (SV.sl 0 0 0 1 l.length l.length ex false)]:List (Option SV)).all λo=>match o with|some v=>lW 0 l.length v|none=>true)) 0 0 (aaf _) (aaf _) rfl (by simp [lW,aa])
  rw [adN,adA] at k
  exact k
 ·exact g.fz (u:=.ro true K l) (h2:=[]) (p:=aa (decide (l.length=l.length)) (([some (SV.sl 0 0 0 1 l.length l.length ex true)]:List (Option SV)).all λo=>match o with|some v=>lW 0 l.length v|none=>true)) 0 0 (aaf _) (aaf _) rfl (by simp [lW,aa])
theorem ai.SK {f:FuncId} {args:List SV} {h h1:List Blk} (g:ai P f args h (.nl (.slice none 0 0)) h1) (z:Nat) (gg:Nat->List SV) (ex:Bool):ai P f args h (.bK h1.length z 0 0 ex) (h1++[.b [.rows z 0 gg]]):=
 g.post λB e w t' _ hl R=>⟨e,rfl,⟨hl.1,λi v v' a c=>by
  cases i with
  |zero=>
   simp only [aa2,No] at a
   subst a
   have h1:v'= .slice none 0 0:=hl.2 0 _ v' rfl c
   exact .inl ⟨rfl,rfl,none,h1⟩
  |succ i=>simp at a⟩,by
  have:=R.nothing (j:=h1.length) (ps:=[.rows z 0 gg]) (.inl rfl) (by simp [av,gS])
  unfold bI at this
  rw [aaM rfl] at this
  exact this⟩
theorem VE.mb (j z n cap:Nat) (ex wh:Bool):VE (.sl j 0 0 z n cap ex wh) (.bK j z n cap ex):=λe x h=>by
 rcases h with h|⟨p,cap',a,h1,h2,h3,h4,h5,h6,h7⟩
 ·exact .inl h
 ·exact .inr ⟨p,cap',a,h1,h2,λq=>by simpa using h3 q,h4,h5,h6,λq=>by simpa using h7 q⟩
theorem PE.rows {z n:Nat} {g g':Nat->List SV} (h:∀i,i<n->PE (g i) (g' i)):PE [.rows z n g] [.rows z n g']:=
 ⟨rfl,λe ys q=>by
  obtain ⟨us,zs,h1,h2,h3,h4⟩:=PR.fN.1 q
  exact PR.fN.2 ⟨us,zs,h1,λi hi=>(h i hi).2 _ _ (h2 i hi),h3,h4⟩⟩
theorem PE.YR {z:Nat} {g:Nat->List SV}:PE [] [.rows z 0 g]:=
 ⟨by simp [av,gS],λe ys q=>PR.fN.2 ⟨[],ys,by simp,λi hi=>absurd hi (by omega),q,rfl⟩⟩
end
end Go.Sy
namespace Go.Proofs.YthlnlcijnoadcaaGreatDoor.Tr
open Go Go.Sy
theorem gB:ak prog (mk (P:=prog) [] []):=az _ aL.nil _ _
theorem VL (xs:List Int):(aG prog (mk (P:=prog) [] []) 60 f120 [.ro false .i64 xs] [])=some (.sl 0 0 0 1 (0+xs.length) (0+xs.length) false true,[.b [.ints .i64 (0+xs.length) (List.replicate 0 0++xs)]],aa (aa true (decide (0<xs.length))) (aa true (decide (0+xs.length<=2^38)))):=by kernel_rfl
theorem VN (a:Addr) (c:Nat):(aG prog (mk (P:=prog) [] []) 60 f120 [.nl (.slice (some a) 0 c)] [])=some (.sl 0 0 0 1 0 0 false true,[.b [.ints .i64 0 []]],true):=by kernel_rfl
theorem VM (_u:Unit):(aG prog (mk (P:=prog) [] []) 60 f120 [.nl (.slice none 0 0)] [])=some (.nl (.slice none 0 0),[],true):=by kernel_rfl
theorem aem (N:Nat) (t:Nat->aj):(aG prog (mk (P:=prog) [] []) 60 f152 [.aJ false 99 N (aq t)] [])=some (.sl 1 0 0 99 (0+N) (0+N) false true,[.b [],.b [.rows 99 N (aq t)]],aa (aa true (decide (0<N))) (aa (aa true (decide (0+N<=2^38))) (decide (0<0+N)))):=by kernel_rfl
theorem aen (a:Addr) (c:Nat):(aG prog (mk (P:=prog) [] []) 60 f152 [.nl (.slice (some a) 0 c)] [])=some (.sl 0 0 0 99 0 0 false true,[.b []],true):=by kernel_rfl
theorem aeo (_u:Unit):(aG prog (mk (P:=prog) [] []) 60 f152 [.nl (.slice none 0 0)] [])=some (.nl (.slice none 0 0),[],true):=by kernel_rfl
theorem EF {xs:List Int} (h:xs.length<=274877906944):ai prog 120 [.ro false .i64 xs] [] (.ro true .i64 xs) []:=by
 refine ai.Gh (λh0=>?_) (λhx=>?_) (λhx a c=>?_)
 ·have k:=VL xs
  rw [abC,Me h0,Me (show xs.length<=2^38 by omega)] at k
  exact ai.jG (ai.bg gB func120 k) rfl
 ·subst hx
  exact ai.conv (ai.bg gB func120 (VM ())) ⟨VE.refl _,trivial⟩ trivial (VE.nN true .i64) trivial
 ·subst hx
  exact ai.jG (ai.bg gB func120 (VN a c)) rfl
def MU:Entry prog:=.val 120 _ func120 (by decide) rfl true 0 (λvs=>match vs with
 | [.ro false .i64 xs]=>some (.ro true .i64 xs,[],decide (xs.length<=274877906944))
 |_=>none) λvs v new e=>by
 split at e
 ·simp only [No,aae,aab] at e
  obtain ⟨rfl,rfl,h⟩:=e
  exact EF h
 ·cases e
theorem EG {N:Nat} {t:Nat->aj} (h:N<=71):ai prog 152 [.aJ false 99 N (aq t)] [] (.bK 0 99 N N false) [.b [.rows 99 N (aq t)]]:=by
 refine ai.SJ (λh0=>?_) (λhx=>?_) (λhx a c=>?_)
 ·have k:=aem N t
  rw [abC,Me h0,Me (show N<=2^38 by omega)] at k
  exact ai.conv (ai.yN (u:=.sl 0 0 0 99 N N false true) (new:=[.b [.rows 99 N (aq t)]]) [1] (ai.bg gB func152 k) (by kernel_rfl)) ⟨VE.refl _,trivial⟩ trivial (VE.mb _ _ _ _ _ _) ⟨PE.refl _,trivial⟩
 ·subst hx
  exact (ai.bg gB func152 (aeo ())).SK 99 (aq t) false
 ·subst hx
  exact ai.conv (ai.bg gB func152 (aen a c)) ⟨VE.refl _,trivial⟩ trivial (VE.mb _ _ _ _ _ _) ⟨PE.YR,trivial⟩
def MV:Entry prog:=.val 152 _ func152 (by decide) rfl true 1 (λvs=>match vs with
 | [.aJ false 99 N g]=>some (.bK 0 99 N N false,[.b [.rows 99 N (aq (ag g))]],bF N g&&decide (N<=71))
 |_=>none) λvs v new e=>by
 split at e
 ·simp only [No,aae,aac,aab] at e
  obtain ⟨rfl,rfl,h1,h2⟩:=e
  exact ai.conv (EG (t:=ag _) h2) ⟨VE.tree h1,trivial⟩ trivial (VE.refl _) ⟨PE.refl _,trivial⟩
 ·cases e
end Go.Proofs.YthlnlcijnoadcaaGreatDoor.Tr
end
section
namespace Go.Proofs.YthlnlcijnoadcaaGreatDoor.Tr
open Go Go.Sy
def SL (b:Bool):bO:=mk (P:=prog) [MU,MV] [] (uT [(10,b)])
theorem xO (b:Bool):ak prog (SL b):=az _ aL.nil _ _
def U0:Code:=aP f107
def MW (N:Nat) (t:Nat->aj) (i:Int):St:=⟨slotsOf 24 [(3,.bK 0 99 N N false),(8,.int .i64 N),(9,.int .i64 i)],[.b [.rows 99 N (aq t)]],true⟩
theorem MX (N:Nat) (t:Nat->aj):aA (ah [3,8,9] 1 ((aE prog (SL true) 60 0 3 (atoms U0) ⟨aD f107.ntmps [.aJ false 99 N (aq t)],[],true⟩).map λs=>(Exit.normal,s)))=some (.normal,(MW N t 0).t,[.b [.rows 99 N (aq (ag λi=>af (aq t i)))]]):=by kernel_rfl
theorem I5 (N:Nat) (t:Nat->aj):aZ (ah [3,8,9] 1 ((aE prog (SL true) 60 0 3 (atoms U0) ⟨aD f107.ntmps [.aJ false 99 N (aq t)],[],true⟩).map λs=>(Exit.normal,s)))=(aa true (aa true ((bF N λi=>af (aq t i))&&decide (N<=71)))):=by kernel_rfl
theorem SM (N:Nat) (t:Nat->aj) (i:Int):aA (ah [3] 1 (exec prog (SL false) 60 0 (inner (inner (au 3 U0))) (MW N t i)))=some (.exit 0,slotsOf 24 [(3,.bK 0 99 N N false)],[.b [.rows 99 N (aq t)]]):=by kernel_rfl
theorem MY (N:Nat) (t:Nat->aj) (i:Int):aZ (ah [3] 1 (exec prog (SL false) 60 0 (inner (inner (au 3 U0))) (MW N t i)))=(aa true !decide (i<((N:Nat):Int))):=by kernel_rfl
theorem SN (N:Nat) (t:Nat->aj) (i:Int):aA (ah [3,8,9] 1 (exec prog (SL true) 60 0 (inner (inner (au 3 U0))) (MW N t i)))=some (.normal,(MW N t (i64.wrap (i+1))).t,[.b [.rows 99 N λj=>br (Nat.beq j i.toNat) [.bool (t i.toNat).used,.int .i64 (t i.toNat).name,.ints .u8 32 (t i.toNat).key,.ints .u8 32 (t i.toNat).sign,.ints .u8 32 (t i.toNat).par,.ro true .i64 (t i.toNat).un] (aq t j)]]):=by kernel_rfl
theorem MZ (N:Nat) (t:Nat->aj) (i:Int):aZ (ah [3,8,9] 1 (exec prog (SL true) 60 0 (inner (inner (au 3 U0))) (MW N t i)))=(aa (aa (aa (aa (aa (aa true (decide (i<((N:Nat):Int)))) (aX i N)) (true&&(decide (i.toNat<N)&&true))) (aa true (decide ((t i.toNat).un.length<=274877906944)))) (aX i N)) (true&&decide (i.toNat<N))):=by kernel_rfl
theorem AZ (j i:Nat):Nat.beq j i=decide (j=i):=by
 cases h:Nat.beq j i with
 |true=>exact (Me (aaA h)).symm
 |false=>exact (aam (Nat.ne_of_beq_eq_false h)).symm
theorem I6 (t:Nat->aj) (i:Nat):(λj=>br (Nat.beq j i) [.bool (t i).used,.int .i64 (t i).name,.ints .u8 32 (t i).key,.ints .u8 32 (t i).sign,.ints .u8 32 (t i).par,.ro true .i64 (t i).un] (aq t j))=aq t:=by
 funext j
 rw [AZ]
 by_cases h:j=i
 ·subst h;rw [Me rfl];rfl
 ·rw [aam h];rfl
theorem M0 {N:Nat} {t:Nat->aj} (hT:cF N t):ai prog 107 [.aJ false 99 N (aq t)] [] (.bK 0 99 N N false) [.b [.rows 99 N (aq t)]]:=by
 have hle:=hT.le
 refine ai.toEnd (h:=[]) func107 rfl 3 0 (λj=>MW N t ((j:Nat):Int)) N
  (λy s' g=>aV.bk (xO true) 60 3 _ 1 (aap _) (s1:=MW N t ((0:Nat):Int)) _ (MX N t) (I5 N t) (by rw [show bF N (λi=>af (aq t i))=true from bq hT,Me hle];rfl) (by decide) rfl g) (by decide) (by kernel_rfl)
  (λj hj=>?_) (sE:=⟨slotsOf 24 [(3,.bK 0 99 N N false)],[.b [.rows 99 N (aq t)]],true⟩) (s':=⟨slotsOf 24 [(2,.bK 0 99 N N false),(3,.bK 0 99 N N false),(23,.bK 0 99 N N false)],[.b [.rows 99 N (aq t)]],true⟩) (x:=.ret) (v:=[.bK 0 99 N N false]) ?_ ?_ (.inl rfl) (by kernel_rfl)
 ·have e:=SN N t j
  rw [aaa,I6,cq (by omega)] at e
  refine Tr.aR (xO true) 60 _ 1 (aap _) (s':=MW N t ((j+1:Nat):Int)) _ e (MZ N t j) ?_
  rw [aaa,fo hj,bf hj,Me hj,Me (hT.un j hj)]
  rfl
 ·exact Tr.aR (xO false) 60 _ 1 (aap _) _ (SM N t N) (MY N t N) (by rw [fA (aaf _)];rfl)
 ·exact aV.rest (xO true) 60 (by kernel_rfl) rfl
def WL:Entry prog:=.val 107 _ func107 (by decide) rfl true 1 (λvs=>match vs with
 | [.aJ false 99 N g]=>some (.bK 0 99 N N false,[.b [.rows 99 N (aq (ag g))]],bF N g&&decide (N<=71))
 |_=>none) λvs v new e=>by
 split at e
 ·simp only [No,aae,aac,aab] at e
  obtain ⟨rfl,rfl,h1,h2⟩:=e
  exact ai.conv (M0 (cF.of h1 h2)) ⟨VE.tree h1,trivial⟩ trivial (VE.refl _) ⟨PE.refl _,trivial⟩
 ·cases e
end Go.Proofs.YthlnlcijnoadcaaGreatDoor.Tr
end
section
namespace Go.Proofs.YthlnlcijnoadcaaGreatDoor.Tr
open Go Go.Sy
section
variable (N:Nat) (t:Nat->aj) (nm:Int)
end
section
variable {N:Nat} {t:Nat->aj} {nm:Int}
end
end Go.Proofs.YthlnlcijnoadcaaGreatDoor.Tr
end
