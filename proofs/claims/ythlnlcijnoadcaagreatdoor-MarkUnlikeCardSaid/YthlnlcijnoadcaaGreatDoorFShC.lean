/- This file holds the texts ShA, ShB, ShC, a section each. No conditions beyond those in the theorems. -/
import Derived.Test.YthlnlcijnoadcaaGreatDoorFMd
import Derived.Test.YthlnlcijnoadcaaGreatDoorFSxA
import Derived.Test.YthlnlcijnoadcaaGreatDoorChecked
import Derived.Laws.Externs
import Derived.Laws.BitsLemmas
import Derived.IntWalk
set_option linter.all false
set_option maxRecDepth 100000
section
namespace Go.Proofs.YthlnlcijnoadcaaGreatDoor.Sh
open Go Go.Sy
abbrev W (n:Int):Int:=IntKind.u64.wrap n
def W0 (n:Int):Bool:=decide (0≤W n)
theorem wrap_u64 (n:Int):IntKind.u64.wrap n=n%18446744073709551616:=by simp [IntKind.wrap,IntKind.signed,IntKind.bits]
theorem W0_true (n:Int):W0 n=true:=by unfold W0 W;rw [wrap_u64];exact decide_eq_true (Int.emod_nonneg _ (by decide))
def rotP (x a:Int):Int:=orI .u64 (shlI .u64 x (andI .u64 (W (IntKind.i64.wrap (0-a))) 63).toNat) (shrI .u64 x (W (64-andI .u64 (W (IntKind.i64.wrap (0-a))) 63)).toNat)
def tnP (x a b c:Int):Int:=xorI .u64 (xorI .u64 (rotP x a) (rotP x b)) (rotP x c)
theorem ctr0:CtrSound Tryz.prog (mk (P:=Tryz.prog) [] []):=mk_sound _ InlOK.nil _ _
end Go.Proofs.YthlnlcijnoadcaaGreatDoor.Sh
end
section
namespace Go.Proofs.YthlnlcijnoadcaaGreatDoor.Sh
open Go Go.Sy
theorem wrap_i64 (n:Int) (h0: -9223372036854775808≤n) (h1:n<9223372036854775808):IntKind.i64.wrap n=n:=IntWalk.i64_in n (by omega)
theorem inB_true {i:Int} {n:Nat} (h0:0≤i) (h1:i<n):inB i n=true:=by
 unfold inB
 simp only [Bool.and_eq_true,decide_eq_true_eq]
 omega
theorem VE.lst (k:IntKind) (n:Nat) (l:List Int):VE (.agg [.ints k n l]) (.agg [.ints k n (lst n l)]):=fun e _ ⟨ys,h1,h2⟩=>⟨ys,(PE.lst k n l).2 e ys h1,h2⟩
end Go.Proofs.YthlnlcijnoadcaaGreatDoor.Sh
end
section
namespace Go.Sy
open Go
variable {P:Program}
theorem FnTr.empty {f:FuncId} {args:List SV} {h h1:List Blk} (g:FnTr P f args h (.nl (.slice none 0 0)) h1) (K:IntKind) (ex wh:Bool):FnTr P f args h (.sl h1.length 0 0 1 0 0 ex wh) (h1++[.b [.ints K 0 []]]):=
 g.post fun B e w t' _ hl R=>⟨e,rfl,⟨hl.1,fun i v v' a c=>by
  cases i with
  |zero=>
   simp only [List.getElem?_cons_zero,Option.some.injEq] at a
   subst a
   have h1:v'= .slice none 0 0:=hl.2 0 _ v' rfl c
   exact .inl ⟨rfl,rfl,none,h1⟩
  |succ i=>simp at a⟩,by
  have:=R.nothing (j:=h1.length) (ps:=[.ints K 0 []]) (.inl rfl) rfl
  unfold placeH at this
  rw [if_pos rfl] at this
  exact this⟩
theorem FnTr.frozen {f:FuncId} {args:List SV} {K:IntKind} {l:List Int} {N:Nat} {ex wh:Bool} (g:FnTr P f args [] (.sl 0 0 0 1 N N ex wh) [.b [.ints K N l]]) (hl:l.length=N):FnTr P f args [] (.ro true K l) []:=by
 subst hl
 cases wh
 ·have k:=g.fz (u:=.ro true K ((l.drop 0).take l.length)) (h2:=[]) (p:=andT (decide (l.length=l.length)) (([some (SV.sl 0 0 0 1 l.length l.length ex false)]:List (Option SV)).all fun o=>match o with|some v=>fzO 0 l.length v|none=>true)) 0 0 (Nat.le_refl _) (Nat.le_refl _) rfl (by simp [fzO,andT])
  rw [List.drop_zero,List.take_length] at k
  exact k
 ·exact g.fz (u:=.ro true K l) (h2:=[]) (p:=andT (decide (l.length=l.length)) (([some (SV.sl 0 0 0 1 l.length l.length ex true)]:List (Option SV)).all fun o=>match o with|some v=>fzO 0 l.length v|none=>true)) 0 0 (Nat.le_refl _) (Nat.le_refl _) rfl (by simp [fzO,andT])
end Go.Sy
namespace Go.Proofs.YthlnlcijnoadcaaGreatDoor.Sh
open Go Go.Sy
noncomputable def gC (b:Bool):=mk (P:=Tryz.prog) [] [] fun i=>if i=6 then some false else if i=16 then some b else none
theorem gC_ok (b:Bool):CtrSound Tryz.prog (gC b):=mk_sound _ InlOK.nil _ _
def gI (n:Int):Int:=IntKind.i64.wrap (n-IntKind.i64.wrap (0-((0:Nat):Int)))
def growF:List SV→Option (SV×List Blk×Bool)
 | [.nl (.slice none 0 0),.int .i64 n]=>some (.sl 0 0 0 1 0 n.toNat false false,[.b [.ints .u8 n.toNat (List.replicate n.toNat 0)]],decide (0≤n)&&decide (n≤274877906944))
 |_=>none
theorem grow_pos (n:Int):(callS Tryz.prog (gC true) 60 Tryz.f180 [.nl (.slice none 0 0),.int .i64 n] []).map (fun x=>x)=
  some (.sl 0 0 0 1 0 (gI n).toNat false false,[.b [.ints .u8 (gI n).toNat (List.replicate (gI n).toNat 0)]],andT (andT (andT true (!decide (n<0))) (decide (gI n>0))) (decide (0≤gI n)&&decide (gI n≤2^38))):=by kernel_rfl
theorem grow_zero (n:Int):(callS Tryz.prog (gC false) 60 Tryz.f180 [.nl (.slice none 0 0),.int .i64 n] []).map (fun x=>(x.1,x.2.2))=
  some (.nl (.slice none 0 0),andT (andT true (!decide (n<0))) (!decide (gI n>0))):=by kernel_rfl
theorem grow_fn {n:Int} (h0:0≤n) (h1:n≤274877906944):FnTr Tryz.prog 180 [.nl (.slice none 0 0),.int .i64 n] [] (.sl 0 0 0 1 0 n.toNat false false) [.b [.ints .u8 n.toNat (List.replicate n.toNat 0)]]:=by
 have e:gI n=n:=by
  unfold gI
  rw [wrap_i64 (0-((0:Nat):Int)) (by omega) (by omega),wrap_i64 _ (by omega) (by omega)];omega
 by_cases hn:n=0
 ·subst hn
  have k:=grow_zero 0
  rw [e] at k
  exact (call0 (gC_ok false) 60 Tryz.func180 k rfl rfl).empty .u8 false false
 ·have k:=grow_pos n
  rw [e,decide_eq_false (show ¬n<0 by omega),decide_eq_true (show n>0 by omega),decide_eq_true h0,decide_eq_true (show n≤2^38 by omega)] at k
  obtain ⟨x,h2,h3⟩:=Option.map_eq_some_iff.1 k
  subst h3
  exact FnTr.of_callS (gC_ok true) Tryz.func180 h2
noncomputable def growE:Entry Tryz.prog:=.val 180 _ Tryz.func180 (by decide) rfl false 1 growF fun vs v new e=>by
 unfold growF at e
 split at e
 ·simp only [Option.some.injEq,Prod.mk.injEq,Bool.and_eq_true,decide_eq_true_eq] at e
  obtain ⟨rfl,rfl,h1,h2⟩:=e
  exact grow_fn h1 h2
 ·cases e
end Go.Proofs.YthlnlcijnoadcaaGreatDoor.Sh
end
