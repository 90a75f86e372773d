/- This file holds the texts TrR, TrS, TrT, a section each. No conditions beyond those in the theorems. -/
import Derived.Test.YthlnlcijnoadcaaGreatDoorGTrQ
noncomputable section
open Go.Proofs.Tryz
set_option linter.all false
section
namespace Go.Sy
open Go
section
variable {P:Program} {ro:Option Nat} {k:Nat}
abbrev HT:HP:=λ_ _ _=>True
theorem OX.abq {Γ:bO} (hΓ:ak P Γ) (n:Nat) (live:List Nat) (m:Nat) (hm:k<=m) {ops:Array Oper} {is:List Nat} {s s':St} (ob:Bool)
  (e:aA (ah live m ((b7 P (dH P Γ λk=>Sy.exec P Γ n k) Γ.sym Γ.ey k ops is s).map λs=>(Exit.normal,s)))=some (.normal,s'.t,s'.h)) (cA:aZ (ah live m ((b7 P (dH P Γ λk=>Sy.exec P Γ n k) Γ.sym Γ.ey k ops is s).map λs=>(Exit.normal,s)))=ob) (h:ob=true):OX P ro k ops is s HT s' HT:=by
 unfold aA ah at e
 unfold aZ ah at cA
 cases hr:b7 P (dH P Γ λk=>Sy.exec P Γ n k) Γ.sym Γ.ey k ops is s with
 |none=>rw [hr] at e;cases e
 |some q=>
  rw [hr] at e cA
  simp only [aaH,Option.bind_some] at e cA
  cases hc:q.cut live m with
  |none=>rw [hc] at e;cases e
  |some q2=>
   rw [hc] at e cA
   simp only [aaH,No,aae,true_and] at e cA
   obtain ⟨h1,h2⟩:=e
   have hq:q.ob=true:=by
    unfold St.cut St.dn at hc
    split at hc
    ·cases hc;exact cA.trans h
    ·cases hc
   refine OX.V0 (λ_ _ _ _ h=>h) (s1:=q) ?_ ((bE.cut hm hc).trans (bE.same h1 h2))
   intro B e w t' d Q nn rest hB hl R _ hQ
   refine jK (mw hΓ λro k=>(kX hΓ n ro k).1) is s q hr hq (B:=B) (e:=e) (d:=p8 e.m++d) (λi p hi=>Nat.lt_of_lt_of_le (R.kr i p hi) hB) hl R λe' w' t'' hm' hl' R'=>?_
   rw [<-hm']
   exact hQ e' w' t'' hl' R' trivial
end
end Go.Sy
namespace Go.Proofs.YthlnlcijnoadcaaGreatDoor.Tr
open Go Go.Sy
def Oq:Entry prog:=.val 103 _ func103 (by decide) rfl false 2 (λvs=>match vs with
 | [.int .i64 x,.int .i64 n]=>some (.fn (.func 146) [] [.ptr 0 0 0,.ptr 1 0 0],[.b [.int .i64 x],.b [.int .i64 n]],true)
 |_=>none) λvs v new e=>by
 split at e
 ·simp only [No,aae] at e
  obtain ⟨rfl,rfl,_⟩:=e
  exact ai.bg gB func103 (n:=60) (by kernel_rfl)
 ·cases e
def eX:aj:=⟨false,0,List.replicate 32 0,List.replicate 32 0,List.replicate 32 0,[]⟩
end Go.Proofs.YthlnlcijnoadcaaGreatDoor.Tr
end
section
namespace Go.Sy
open Go
section
variable {P:Program} {ro:Option Nat} {k:Nat}
end
end Go.Sy
namespace Go.Proofs.YthlnlcijnoadcaaGreatDoor.Tr
open Go Go.Sy
def c7 (t:Nat->aj) (x:Nat) (n:aj):Nat->aj:=λi=>if i=x then n else t i
theorem GR (i N:Nat):Nat.ble (i+1) N=decide (i<N):=by
 cases h:Nat.ble (i+1) N with
 |true=>exact (Me (aaP h)).symm
 |false=>exact (aam λg=>by rw [adO g] at h;cases h).symm
section
variable {N M:Nat} {t u:Nat->aj} {n:aj} {j m:Nat}
end
end Go.Proofs.YthlnlcijnoadcaaGreatDoor.Tr
end
section
namespace Go.Proofs.YthlnlcijnoadcaaGreatDoor.Tr
open Go Go.Sy
theorem Cn (t:Nat->aj) (x:Nat):(λj=>br (Nat.beq j x) [.bool false,.int .i64 0,.ints .u8 32 (List.replicate 32 0),.ints .u8 32 (List.replicate 32 0),.ints .u8 32 (List.replicate 32 0),.nl (.slice none 0 0)] (aq t j))=aq (c7 t x eX):=by
 funext j
 rw [AZ]
 unfold aq c7
 by_cases h:j=x
 ·rw [Me h,aaM h];rfl
 ·rw [aam h,aaC h];rfl
def bh (t:Nat->aj) (m:Nat) (x:Int):Nat->Nat->aj
 |0=>t
 |k+1=>c7 (bh t m x k) (bG m x k).toNat eX
section
variable {N:Nat} {ex:Bool} {t:Nat->aj} {j m:Nat}
end
def GO:List SV->List Blk->List Nat
 | [.bK b _ _ _ _,_],_=>[b]
 |_,_=>[]
def mO (l:List (Nat×Bool)):bO:=mk (P:=prog) [] [] (uT l)
theorem cZ (l:List (Nat×Bool)):ak prog (mO l):=az _ aL.nil _ _
end Go.Proofs.YthlnlcijnoadcaaGreatDoor.Tr
end
