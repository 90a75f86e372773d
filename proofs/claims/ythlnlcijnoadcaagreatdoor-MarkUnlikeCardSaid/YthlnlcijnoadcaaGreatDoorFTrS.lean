/- This file holds the texts TrR, TrS, a section each. No conditions beyond those in the theorems. -/
import Derived.Test.YthlnlcijnoadcaaGreatDoorFTrQ
set_option linter.all false
section
namespace Go.Sy
open Go
section
variable {P:Program} {ro:Option Nat} {k:Nat}
abbrev HT:HP:=fun _ _ _=>True
theorem OX.run0 {Γ:Ctr} (hΓ:CtrSound P Γ) (n:Nat) (live:List Nat) (m:Nat) (hm:k≤m) {ops:Array Oper} {is:List Nat} {s s':St} (ob:Bool)
  (e:resX (cutR live m ((runOps P (callG P Γ fun k=>Sy.exec P Γ n k) Γ.sym Γ.inp k ops is s).map fun s=>(Exit.normal,s)))=some (.normal,s'.t,s'.h)) (hob:obX (cutR live m ((runOps P (callG P Γ fun k=>Sy.exec P Γ n k) Γ.sym Γ.inp k ops is s).map fun s=>(Exit.normal,s)))=ob) (h:ob=true):OX P ro k ops is s HT s' HT:=by
 unfold resX cutR at e
 unfold obX cutR at hob
 cases hr:runOps P (callG P Γ fun k=>Sy.exec P Γ n k) Γ.sym Γ.inp k ops is s with
 |none=>rw [hr] at e;cases e
 |some q=>
  rw [hr] at e hob
  simp only [Option.map_some,Option.bind_some] at e hob
  cases hc:q.cut live m with
  |none=>rw [hc] at e;cases e
  |some q2=>
   rw [hc] at e hob
   simp only [Option.map_some,Option.some.injEq,Prod.mk.injEq,true_and] at e hob
   obtain ⟨h1,h2⟩:=e
   have hq:q.ob=true:=by
    unfold St.cut St.trunc at hc
    split at hc
    ·cases hc;exact hob.trans h
    ·cases hc
   refine OX.ent (fun _ _ _ _ h=>h) (s1:=q) ?_ ((Ent.cut hm hc).trans (Ent.same h1 h2))
   intro B e w t' d Q nn rest hB hl R _ hQ
   refine runOps_rest (callG_sound hΓ fun ro k=>(exec_sound hΓ n ro k).1) is s q hr hq (B:=B) (e:=e) (d:=mkD e.m++d) (fun i p hi=>Nat.lt_of_lt_of_le (R.kr i p hi) hB) hl R fun e' w' t'' hm' hl' R'=>?_
   rw [←hm']
   exact hQ e' w' t'' hl' R' trivial
end
end Go.Sy
namespace Go.Proofs.YthlnlcijnoadcaaGreatDoor.Tr
open Go Go.Sy
def zeroN:Nod:=⟨false,0,List.replicate 32 0,List.replicate 32 0,List.replicate 32 0,[]⟩
end Go.Proofs.YthlnlcijnoadcaaGreatDoor.Tr
end
section
namespace Go.Sy
open Go
section
variable {P:Program} {ro:Option Nat} {k:Nat}
end
end Go.Sy
namespace Go.Proofs.YthlnlcijnoadcaaGreatDoor.Tr
open Go Go.Sy
def updT (t:Nat→Nod) (x:Nat) (n:Nod):Nat→Nod:=fun i=>if i=x then n else t i
section
variable {N M:Nat} {t u:Nat→Nod} {n:Nod} {j m:Nat}
end
end Go.Proofs.YthlnlcijnoadcaaGreatDoor.Tr
end
