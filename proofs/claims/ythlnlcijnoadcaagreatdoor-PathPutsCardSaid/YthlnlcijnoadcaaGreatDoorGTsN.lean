/- This file holds the texts TsM, TsN, a section each. No conditions beyond those in the theorems. -/
import Derived.Test.YthlnlcijnoadcaaGreatDoorGTsL
noncomputable section
open Go.Proofs.Tryz
set_option linter.all false
section
namespace Go.Proofs.YthlnlcijnoadcaaGreatDoor.Tr
open Go Go.Sy
def BC:List SV->Bool
 | [.bool _,.int .i64 _,.ints .u8 32 k,.ints .u8 32 s,.ints .u8 32 p,.ro false .i64 _]=>decide (k.length=32)&&decide (s.length=32)&&decide (p.length=32)
 |_=>false
def qw (N:Nat) (g:Nat->List SV):Bool:=(List.range N).all λi=>BC (g i)
theorem vN {l:List SV} (h:BC l=true):l=(lN l).cells:=by
 unfold BC at h
 split at h
 ·rfl
 ·cases h
theorem Lu {N:Nat} {t:Nat->aj} (h:qw N (aq t)=true) (hl:∀i,i<N->(t i).un.length<=274877906944):bF N (aq t)=true:=m8.2 λi hi=>by
 have:=aah.1 h i (aan.2 hi)
 have q:(decide ((t i).key.length=32)&&decide ((t i).sign.length=32)&&decide ((t i).par.length=32))=true:=this
 simp only [aac,aab] at q
 exact ⟨rfl,hl i hi,q.1.1,q.1.2,q.2⟩
def Ow (b:Bool):Entry prog:=.val 19 _ func19 (by decide) rfl true 0 (λvs=>match vs with
 | [.aJ false 99 N g]=>some (.bool b,[],bF N g&&decide (N<=71)&&(cN N (ag g)==b))
 |_=>none) λvs v new e=>by
 split at e
 ·simp only [No,aae,aac,aab,aaS] at e
  obtain ⟨rfl,rfl,⟨h1,h2⟩,h3⟩:=e
  rw [<-h3]
  exact ai.conv (NC (cF.of h1 h2)) ⟨VE.tree h1,trivial⟩ trivial (VE.refl _) trivial
 ·cases e
def QW:Entry prog:=.val 17 _ func17 (by decide) rfl true 0 (λvs=>match vs with
 | [.aJ false 99 N g,.aJ false 99 M g']=>some (.bool (tT N M (ag g) (ag g')),[],bF N g&&bF M g'&&decide (N<=71)&&decide (M<=71))
 |_=>none) λvs v new e=>by
 split at e
 ·simp only [No,aae,aac,aab] at e
  obtain ⟨rfl,rfl,⟨⟨h1,h2⟩,h3⟩,h4⟩:=e
  exact ai.conv (Jw (t:=ag _) (u:=ag _) (by omega) (cF.of h1 h3).parts (cF.of h2 h4).parts) ⟨VE.tree h1,VE.tree h2,trivial⟩ trivial (VE.refl _) trivial
 ·cases e
end Go.Proofs.YthlnlcijnoadcaaGreatDoor.Tr
end
section
namespace Go.Proofs.YthlnlcijnoadcaaGreatDoor.Tr
open Go Go.Sy
section
variable {N M:Nat} {t u:Nat->aj} {nm:Int}
theorem JB (a:aj):uO a a=true:=by
 unfold uO kq
 simp
theorem A4:tT N N t t=true:=by
 unfold tT bP
 cases hq:b6 (λi=>uO (t i) (t i)) N with
 |none=>simp
 |some j=>
  have:=(cX hq).2.1
  rw [JB] at this
  cases this
end
end Go.Proofs.YthlnlcijnoadcaaGreatDoor.Tr
end
