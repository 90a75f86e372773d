/- This file holds the texts MkH, MkI, MkL, a section each. No conditions beyond those in the theorems. -/
import Derived.Test.YthlnlcijnoadcaaGreatDoorGMkG
noncomputable section
open Go.Proofs.Tryz
open Go.IntKind (i64 u8 u64 u32)
set_option linter.all false
set_option maxRecDepth 100000
section
namespace Go.Sy
open Go
section
variable {P:Program}
theorem PE.Wn (z:Nat) {ps:List SV} (hz:av ps=z) (hc:cO ps=true):PE [.rows z 1 λ_=>ps] ps:=by
 refine ⟨by simp [av,gS,hz],λe ys q=>?_⟩
 obtain ⟨us,zs,h1,h2,h3,rfl⟩:=PR.fN.1 q
 rw [PR] at h3;subst h3
 have:=h2 0 (by omega)
 rw [Nat.zero_mul,adN,aao (by omega)] at this
 rw [aaz]
 exact PR.mono' (e:=⟨λ_=>none,e.z,e.n0,[],λ_=>none⟩) (e':=e) (λ_ _ h=>h) (aaf _) ps us (λj p hu _=>by rw [dG hc] at hu;cases hu) this
end
end Go.Sy
namespace Go.Proofs.YthlnlcijnoadcaaGreatDoor.Mk
open Go Go.Sy Tr Wi S2
abbrev AW (u:Bool) (nm:Int) (k s p:List Int):aj:=⟨u,nm,k,s,p,[]⟩
abbrev nC (u:Bool) (nm:Int) (k s p:List Int):List SV:=[.bool u,.int .i64 nm,.ints .u8 32 k,.ints .u8 32 s,.ints .u8 32 p,.nl (.slice none 0 0)]
def Cg:List SV->List Nat
 | [.sl b _ _ _ _ _ _ _]=>[b]
 |_=>[]
end Go.Proofs.YthlnlcijnoadcaaGreatDoor.Mk
end
section
namespace Go.Proofs.YthlnlcijnoadcaaGreatDoor.Mk
open Go Go.Sy Tr Wi S2
section
variable {N:Nat} {t:Nat->aj} {x:Int} {wo:List Int}
end
end Go.Proofs.YthlnlcijnoadcaaGreatDoor.Mk
end
section
namespace Go.Proofs.YthlnlcijnoadcaaGreatDoor.Mk
open Go Go.Sy Tr Wi S2
def Om:Code:=aP f84
def Gz (x k:Int):List (Option SV):=slotsOf 14 [(0,.int .i64 x),(3,.int .i64 k)]
theorem abU (x:Int):(aG prog (jo [(5,true)]) 60 f84 [.int .i64 x] []).map (λx=>(x.1,x.2.2))=some (.int .i64 (-1),aa true (decide (x<0))):=by kernel_rfl
theorem abV (x:Int):aA (ah [0,3] 0 ((aE prog (jo [(5,false)]) 60 0 4 (atoms Om) ⟨aD f84.ntmps [.int .i64 x],[],true⟩).map λs=>(Exit.normal,s)))=some (.normal,Gz x 0,[]):=by kernel_rfl
theorem Wo (x:Int):aZ (ah [0,3] 0 ((aE prog (jo [(5,false)]) 60 0 4 (atoms Om) ⟨aD f84.ntmps [.int .i64 x],[],true⟩).map λs=>(Exit.normal,s)))=(aa true !decide (x<0)):=by kernel_rfl
theorem Wp (x k:Int):aA (ah [0,3] 0 (exec prog (jo [(8,true)]) 60 0 (inner (inner (au 4 Om))) ⟨Gz x k,[],true⟩))=some (.normal,Gz (i64.wrap (x.tdiv 2)) (i64.wrap (k+1)),[]):=by kernel_rfl
theorem Qx (x k:Int):aZ (ah [0,3] 0 (exec prog (jo [(8,true)]) 60 0 (inner (inner (au 4 Om))) ⟨Gz x k,[],true⟩))=(aa true (x.tmod 2==1)):=by kernel_rfl
theorem abW (x k:Int):aA (ah [3] 0 (exec prog (jo [(8,false)]) 60 0 (inner (inner (au 4 Om))) ⟨Gz x k,[],true⟩))=some (.exit 0,slotsOf 14 [(3,.int .i64 k)],[]):=by kernel_rfl
theorem Wq (x k:Int):aZ (ah [3] 0 (exec prog (jo [(8,false)]) 60 0 (inner (inner (au 4 Om))) ⟨Gz x k,[],true⟩))=(aa true !x.tmod 2==1):=by kernel_rfl
theorem abX (k:Int):aA (ah [2] 0 (cn prog (jo []) 60 0 ((atoms Om).drop 5) ⟨slotsOf 14 [(3,.int .i64 k)],[],true⟩))=some (.ret,slotsOf 14 [(2,.int .i64 k)],[]):=by kernel_rfl
theorem Wr (k:Int):aZ (ah [2] 0 (cn prog (jo []) 60 0 ((atoms Om).drop 5) ⟨slotsOf 14 [(3,.int .i64 k)],[],true⟩))=(true):=by kernel_rfl
def GA (x:Nat) (j:Nat):Bool:=x/2^j%2==1
def DW (x:Nat):Nat:=(b6 (GA x) 64).getD 64
def Qy (x:Int):Int:=bif decide (x<0) then-1 else ((DW x.toNat:Nat):Int)
theorem KZ {x:Nat} (h:x<2^63):DW x<64/\GA x (DW x)=false/\∀j,j<DW x->GA x j=true:=by
 unfold DW
 cases hq:b6 (GA x) 64 with
 |some n=>exact cX hq
 |none=>
  have:=cS hq 63 (by omega)
  unfold GA at this
  rw [Nat.div_eq_of_lt h] at this
  cases this
theorem za (y:Nat):(((y:Nat):Int).tmod 2==1)=(y%2==1):=K0 y
theorem GB {q:Nat} (h:q<2^63):i64.wrap ((q:Int).tdiv 2)=((q/2:Nat):Int):=by
 rw [show (2:Int)=((2:Nat):Int) from rfl, <-Int.ofNat_tdiv]
 exact cg (by omega) (by omega)
theorem DX {x:Int} (hx:(Lit.int .i64 x).wf=true):ai prog 84 [.int .i64 x] [] (.int .i64 (Qy x)) []:=by
 have hr: -9223372036854775808<=x/\x<=9223372036854775807:=by simpa [Lit.wf,IntKind.has,IntKind.min,IntKind.max,IntKind.signed,IntKind.bits] using hx
 unfold Qy
 by_cases h0:x<0
 ·rw [Me h0]
  exact aI (cK _) 60 func84 (abU x) (by rw [Me h0];rfl) rfl
 ·rw [aam h0,_root_.cond_false]
  obtain ⟨y,rfl⟩:=aaB (show 0<=x by omega)
  rw [aaa]
  obtain ⟨a1,a2,a3⟩:=KZ (x:=y) (by omega)
  generalize DW y=n at a1 a2 a3
  have hd:∀j,y/2^j<=y:=λj=>Nat.div_le_self _ _
  refine ai.mk (vs:=[.int .i64 n]) func84 rfl (x:=.ret) (s:=⟨slotsOf 14 [(2,.int .i64 n)],[],true⟩) ?_ (.inl rfl) (by kernel_rfl)
  refine aV.bk (cK [(5,false)]) 60 4 _ 0 (aap _) (s1:=⟨Gz ((y/2^0:Nat):Int) ((0:Nat):Int),[],true⟩) _ (by have:=abV y;rw [show (y:Int)=((y/2^0:Nat):Int) by simp] at this ⊢;exact this) (Wo y) (by rw [aam h0];rfl) (by decide) rfl ?_
  refine aV.item 4 (by decide) (s1:=⟨slotsOf 14 [(3,.int .i64 n)],[],true⟩) (Tr.loop 0 (by kernel_rfl) (λj=>⟨Gz ((y/2^j:Nat):Int) ((j:Nat):Int),[],true⟩) n (λj hj=>?_) ?_) ?_
  ·have e:=Wp ((y/2^j:Nat):Int) j
   have hh:i64.wrap ((((y/2^j:Nat):Int)).tdiv 2)=((y/2^(j+1):Nat):Int):=by
    have g:y/2^(j+1)=y/2^j/2:=by rw [Nat.pow_succ,Nat.div_div_eq_div_mul]
    rw [g]
    exact GB (Nat.lt_of_le_of_lt (hd j) (by omega))
   rw [hh,cq (by omega)] at e
   exact Tr.aR (cK [(8,true)]) 60 _ 0 (aap _) (s':=⟨Gz ((y/2^(j+1):Nat):Int) ((j+1:Nat):Int),[],true⟩) _ e (Qx _ _) (by rw [za,show (y/2^j%2==1)=true from a3 j hj];rfl)
  ·exact Tr.aR (cK [(8,false)]) 60 _ 0 (aap _) (s':=⟨slotsOf 14 [(3,.int .i64 n)],[],true⟩) _ (abW ((y/2^n:Nat):Int) n) (Wq _ _) (by rw [za,show (y/2^n%2==1)=false from a2];rfl)
  ·exact aV.og (cK []) 60 _ 0 (aap _) _ (abX n) (Wr n) rfl (by intro q;have:=adX List.length q;revert this;decide)
def K1:Entry prog:=.val 84 _ func84 (by decide) rfl false 0 (λvs=>match vs with
 | [.int .i64 x]=>some (.int .i64 (Qy x),[],(Lit.int .i64 x).wf)
 |_=>none) λvs v new e=>by
 split at e
 ·simp only [No,aae] at e
  obtain ⟨rfl,rfl,h⟩:=e
  exact DX h
 ·cases e
def On (l:List (Nat×Bool)):bO:=mk (P:=prog) [K1] [] (uT l)
theorem qz (l:List (Nat×Bool)):ak prog (On l):=az _ aL.nil _ _
end Go.Proofs.YthlnlcijnoadcaaGreatDoor.Mk
end
