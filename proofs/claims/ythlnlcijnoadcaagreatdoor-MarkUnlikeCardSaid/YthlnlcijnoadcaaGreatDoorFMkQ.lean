/- This file holds the texts MkM, MkS, MkQ, a section each. No conditions beyond those in the theorems. -/
import Derived.Test.YthlnlcijnoadcaaGreatDoorFMkL
import Derived.Test.YthlnlcijnoadcaaGreatDoorFMkB
set_option linter.all false
section
namespace Go.Proofs.YthlnlcijnoadcaaGreatDoor.Mk
open Go Go.Sy Tr Wi S2
open Q2 (shortQ shortDRE By shortW_eq)
section
variable {N:Nat} {t:Nat→Nod} {x c:Int}
end
section
variable {N:Nat} {t:Nat→Nod} {x c:Int}
end
section
variable {N:Nat} {t:Nat→Nod} {x c:Int}
end
end Go.Proofs.YthlnlcijnoadcaaGreatDoor.Mk
end
section
namespace Go.Sy
open Go
section
variable {k:Nat}
theorem Ent.nilRows {t:List (Option SV)} {h:List Blk} {o o':Bool} (i:Nat) (hi:t[i]? =some (some (.nl (.slice none 0 0)))) (z:Nat) (g:Nat→List SV) (ex:Bool):Ent k ⟨t,h,o⟩ ⟨t.set i (some (.rsl h.length z 0 0 ex)),h++[.b [.rows z 0 g]],o'⟩:=
 fun B e w t' _ hl R=>⟨e,rfl,⟨by simpa using hl.1,fun j v v' a c=>by
  by_cases hij:i=j
  ·subst hij
   rw [List.getElem?_set_self (List.getElem?_eq_some_iff.1 hi).1] at a
   simp only [Option.some.injEq] at a
   subst a
   have h1:v'= .slice none 0 0:=hl.2 i _ v' hi c
   exact .inl ⟨rfl,rfl,none,h1⟩
  ·rw [List.getElem?_set_ne hij] at a
   exact hl.2 j v v' a c⟩,by
  have:=R.nothing (j:=h.length) (ps:=[.rows z 0 g]) (.inl rfl) (by simp [psize,psz])
  unfold placeH at this
  rw [if_pos rfl] at this
  exact this⟩
end
end Go.Sy
namespace Go.Proofs.YthlnlcijnoadcaaGreatDoor.Mk
open Go Go.Sy Tr Wi S2
end Go.Proofs.YthlnlcijnoadcaaGreatDoor.Mk
end
section
namespace Go.Proofs.YthlnlcijnoadcaaGreatDoor.Mk
open Go Go.Sy Tr Wi S2
section
variable {t:Nat→Nod} {f:Nat→List Int} {N n:Nat}
theorem digL_out (t u:Nat→Nod) (wo:List Int):∀(k y:Nat),(∀z,y<z+2^k→z<y+2^k→u z=t z)→digL u wo k y=digL t wo k y:=by
 intro k
 induction k with
 |zero=>
  intro y h
  have:=h y (by omega) (by omega)
  unfold digL leafW
  rw [this]
 |succ k ih=>
  intro y h
  have hp:1≤2^k:=Nat.one_le_two_pow
  have e:2^(k+1)=2*2^k:=by rw [Nat.pow_succ];omega
  rw [e] at h
  unfold digL
  rw [h y (by omega) (by omega),ih (y-2^k) (fun z a b=>h z (by omega) (by omega)),ih (y+2^k) (fun z a b=>h z (by omega) (by omega))]
end
end Go.Proofs.YthlnlcijnoadcaaGreatDoor.Mk
end
