/- This file holds the texts TrN, TrP, a section each. No conditions beyond those in the theorems. -/
import Derived.Test.YthlnlcijnoadcaaGreatDoorFTrM
set_option linter.all false
set_option maxRecDepth 100000
section
namespace Go.Sy
open Go
section
variable {P:Program}
theorem FnTr.splitI {f:FuncId} {args:List SV} {h h1:List Blk} {v:SV} {k:IntKind} {xs:List Int} (g1:0<xs.length→FnTr P f (.ro false k xs::args) h v h1)
  (g2:xs=[]→FnTr P f (.nl (.slice none 0 0)::args) h v h1) (g3:xs=[]→∀a c,FnTr P f (.nl (.slice (some a) 0 c)::args) h v h1):FnTr P f (.ro false k xs::args) h v h1:=by
 by_cases hx:xs=[]
 ·intro B e w args' hB hl R
  obtain ⟨y,zs,h1,h2,rfl⟩:=hl
  rcases h1 with ⟨_,a,cap,rfl,ha⟩|⟨n,o,cap,c,t,fr,rfl,_⟩
  ·cases a with
   |none=>
    obtain rfl:=ha rfl
    exact g2 hx B e w _ hB ⟨.slice none 0 0,_,rfl,h2,rfl⟩ R
   |some a=>exact g3 hx a cap B e w _ hB ⟨_,_,rfl,h2,rfl⟩ R
  ·subst hx
   exact g3 rfl _ cap B e w _ hB ⟨_,_,rfl,h2,rfl⟩ R
 ·exact g1 (List.length_pos_iff.2 hx)
theorem FnTr.frozenI {f:FuncId} {args:List SV} {K:IntKind} {l:List Int} {N:Nat} {ex wh:Bool} (g:FnTr P f args [] (.sl 0 0 0 1 N N ex wh) [.b [.ints K N l]]) (hl:l.length=N):FnTr P f args [] (.ro true K l) []:=by
 subst hl
 cases wh
 ·have k:=g.fz (u:=.ro true K ((l.drop 0).take l.length)) (h2:=[]) (p:=andT (decide (l.length=l.length)) (([some (SV.sl 0 0 0 1 l.length l.length ex false)]:List (Option SV)).all fun o=>match o with|some v=>fzO 0 l.length v|none=>true)) 0 0 (Nat.le_refl _) (Nat.le_refl _) rfl (by simp [fzO,andT])
  rw [List.drop_zero,List.take_length] at k
  exact k
 ·exact g.fz (u:=.ro true K l) (h2:=[]) (p:=andT (decide (l.length=l.length)) (([some (SV.sl 0 0 0 1 l.length l.length ex true)]:List (Option SV)).all fun o=>match o with|some v=>fzO 0 l.length v|none=>true)) 0 0 (Nat.le_refl _) (Nat.le_refl _) rfl (by simp [fzO,andT])
theorem VE.sl_rsl (j z n cap:Nat) (ex wh:Bool):VE (.sl j 0 0 z n cap ex wh) (.rsl j z n cap ex):=fun e x h=>by
 rcases h with h|⟨p,cap',a,h1,h2,h3,h4,h5,h6,h7⟩
 ·exact .inl h
 ·exact .inr ⟨p,cap',a,h1,h2,fun q=>by simpa using h3 q,h4,h5,h6,fun q=>by simpa using h7 q⟩
theorem PE.rows {z n:Nat} {g g':Nat→List SV} (h:∀i,i<n→PE (g i) (g' i)):PE [.rows z n g] [.rows z n g']:=
 ⟨rfl,fun e ys q=>by
  obtain ⟨us,zs,h1,h2,h3,h4⟩:=PR.consRows.1 q
  exact PR.consRows.2 ⟨us,zs,h1,fun i hi=>(h i hi).2 _ _ (h2 i hi),h3,h4⟩⟩
end
end Go.Sy
namespace Go.Proofs.YthlnlcijnoadcaaGreatDoor.Tr
open Go Go.Sy
theorem noC_ok:CtrSound Tryz.prog (mk (P:=Tryz.prog) [] []):=mk_sound _ InlOK.nil _ _
theorem cI_1 (xs:List Int):(callS Tryz.prog (mk (P:=Tryz.prog) [] []) 60 Tryz.f120 [.ro false .i64 xs] [])=some (.sl 0 0 0 1 (0+xs.length) (0+xs.length) false true,[.b [.ints .i64 (0+xs.length) (List.replicate 0 0++xs)]],andT (andT true (decide (0<xs.length))) (andT true (decide (0+xs.length≤2^38)))):=by kernel_rfl
theorem cI_2 (a:Addr) (c:Nat):(callS Tryz.prog (mk (P:=Tryz.prog) [] []) 60 Tryz.f120 [.nl (.slice (some a) 0 c)] [])=some (.sl 0 0 0 1 0 0 false true,[.b [.ints .i64 0 []]],true):=by kernel_rfl
theorem cI_3 (_u:Unit):(callS Tryz.prog (mk (P:=Tryz.prog) [] []) 60 Tryz.f120 [.nl (.slice none 0 0)] [])=some (.nl (.slice none 0 0),[],true):=by kernel_rfl
end Go.Proofs.YthlnlcijnoadcaaGreatDoor.Tr
end
section
namespace Go.Proofs.YthlnlcijnoadcaaGreatDoor.Tr
open Go Go.Sy
end Go.Proofs.YthlnlcijnoadcaaGreatDoor.Tr
end
