/- This file holds the texts ShA, ShB, ShC, a section each. No conditions beyond those in the theorems. -/
import Derived.Test.YthlnlcijnoadcaaGreatDoorGMd
import Derived.Test.YthlnlcijnoadcaaGreatDoorGSxA
import Derived.Test.YthlnlcijnoadcaaGreatDoorChecked
import Derived.Laws.Externs
import Derived.Laws.BitsLemmas
import Derived.IntWalk
noncomputable section
open Go.Proofs.Tryz
open Go.IntKind (i64 u8 u64 u32)
set_option linter.all false
set_option maxRecDepth 100000
section
namespace Go.Proofs.YthlnlcijnoadcaaGreatDoor.Sh
open Go Go.Sy
abbrev W (n:Int):Int:=u64.wrap n
def W0 (n:Int):Bool:=decide (0<=W n)
theorem wrap_u64 (n:Int):u64.wrap n=n%18446744073709551616:=by simp [IntKind.wrap,IntKind.signed,IntKind.bits]
theorem Cz (n:Int):W0 n=true:=by unfold W0 W;rw [wrap_u64];exact Me (Int.emod_nonneg _ (by decide))
def zw (x a:Int):Int:=Dc .u64 (jS .u64 x (hD .u64 (W (i64.wrap (0-a))) 63).toNat) (e6 .u64 x (W (64-hD .u64 (W (i64.wrap (0-a))) 63)).toNat)
def OI (x a b c:Int):Int:=eZ .u64 (eZ .u64 (zw x a) (zw x b)) (zw x c)
theorem pT:ak prog (mk (P:=prog) [] []):=az _ aL.nil _ _
end Go.Proofs.YthlnlcijnoadcaaGreatDoor.Sh
end
section
namespace Go.Proofs.YthlnlcijnoadcaaGreatDoor.Sh
open Go Go.Sy
theorem wrap_i64 (n:Int) (h0: -9223372036854775808<=n) (h1:n<9223372036854775808):i64.wrap n=n:=IntWalk.i64_in n (by omega)
theorem ct {i:Int} {n:Nat} (h0:0<=i) (h1:i<n):aX i n=true:=by
 unfold aX
 simp only [aac,aab]
 omega
theorem VE.cG (k:IntKind) (n:Nat) (l:List Int):VE (.agg [.ints k n l]) (.agg [.ints k n (cG n l)]):=λe _ ⟨ys,h1,h2⟩=>⟨ys,(PE.cG k n l).2 e ys h1,h2⟩
end Go.Proofs.YthlnlcijnoadcaaGreatDoor.Sh
end
section
namespace Go.Sy
open Go
variable {P:Program}
theorem ai.empty {f:FuncId} {args:List SV} {h h1:List Blk} (g:ai P f args h (.nl (.slice none 0 0)) h1) (K:IntKind) (ex wh:Bool):ai P f args h (.sl h1.length 0 0 1 0 0 ex wh) (h1++[.b [.ints K 0 []]]):=
 g.post λB e w t' _ hl R=>⟨e,rfl,⟨hl.1,λi v v' a c=>by
  cases i with
  |zero=>
   simp only [aa2,No] at a
   subst a
   have h1:v'= .slice none 0 0:=hl.2 0 _ v' rfl c
   exact .inl ⟨rfl,rfl,none,h1⟩
  |succ i=>simp at a⟩,by
  have:=R.nothing (j:=h1.length) (ps:=[.ints K 0 []]) (.inl rfl) rfl
  unfold bI at this
  rw [aaM rfl] at this
  exact this⟩
theorem ai.frozen {f:FuncId} {args:List SV} {K:IntKind} {l:List Int} {N:Nat} {ex wh:Bool} (g:ai P f args [] (.sl 0 0 0 1 N N ex wh) [.b [.ints K N l]]) (hl:l.length=N):ai P f args [] (.ro true K l) []:=by
 subst hl
 cases wh
 ·have k:=g.fz (u:=.ro true K ((l.drop 0).take l.length)) (h2:=[]) (p:=aa (decide (l.length=l.length)) (([some (SV.sl 0 0 0 1 l.length l.length ex false)]:List (Option SV)).all λo=>match o with|some v=>lW 0 l.length v|none=>true)) 0 0 (aaf _) (aaf _) rfl (by simp [lW,aa])
  rw [adN,adA] at k
  exact k
 ·exact g.fz (u:=.ro true K l) (h2:=[]) (p:=aa (decide (l.length=l.length)) (([some (SV.sl 0 0 0 1 l.length l.length ex true)]:List (Option SV)).all λo=>match o with|some v=>lW 0 l.length v|none=>true)) 0 0 (aaf _) (aaf _) rfl (by simp [lW,aa])
end Go.Sy
namespace Go.Proofs.YthlnlcijnoadcaaGreatDoor.Sh
open Go Go.Sy
def gC (b:Bool):=mk (P:=prog) [] [] λi=>if i=6 then some false else if i=16 then some b else none
theorem OQ (b:Bool):ak prog (gC b):=az _ aL.nil _ _
def gI (n:Int):Int:=i64.wrap (n-i64.wrap (0-((0:Nat):Int)))
def OR:List SV->Option (SV×List Blk×Bool)
 | [.nl (.slice none 0 0),.int .i64 n]=>some (.sl 0 0 0 1 0 n.toNat false false,[.b [.ints .u8 n.toNat (List.replicate n.toNat 0)]],decide (0<=n)&&decide (n<=274877906944))
 |_=>none
theorem H7 (n:Int):(aG prog (gC true) 60 f180 [.nl (.slice none 0 0),.int .i64 n] []).map (λx=>x)=
  some (.sl 0 0 0 1 0 (gI n).toNat false false,[.b [.ints .u8 (gI n).toNat (List.replicate (gI n).toNat 0)]],aa (aa (aa true (!decide (n<0))) (decide (gI n>0))) (decide (0<=gI n)&&decide (gI n<=2^38))):=by kernel_rfl
theorem Eo (n:Int):(aG prog (gC false) 60 f180 [.nl (.slice none 0 0),.int .i64 n] []).map (λx=>(x.1,x.2.2))=
  some (.nl (.slice none 0 0),aa (aa true (!decide (n<0))) (!decide (gI n>0))):=by kernel_rfl
theorem Mg {n:Int} (h0:0<=n) (h1:n<=274877906944):ai prog 180 [.nl (.slice none 0 0),.int .i64 n] [] (.sl 0 0 0 1 0 n.toNat false false) [.b [.ints .u8 n.toNat (List.replicate n.toNat 0)]]:=by
 have e:gI n=n:=by
  unfold gI
  rw [wrap_i64 (0-((0:Nat):Int)) (by omega) (by omega),wrap_i64 _ (by omega) (by omega)];omega
 by_cases hn:n=0
 ·subst hn
  have k:=Eo 0
  rw [e] at k
  exact (aI (OQ false) 60 func180 k rfl rfl).empty .u8 false false
 ·have k:=H7 n
  rw [e,aam (show ¬n<0 by omega),Me (show n>0 by omega),Me h0,Me (show n<=2^38 by omega)] at k
  obtain ⟨x,h2,h3⟩:=aag.1 k
  subst h3
  exact ai.bg (OQ true) func180 h2
def Ye:Entry prog:=.val 180 _ func180 (by decide) rfl false 1 OR λvs v new e=>by
 unfold OR at e
 split at e
 ·simp only [No,aae,aac,aab] at e
  obtain ⟨rfl,rfl,h1,h2⟩:=e
  exact Mg h1 h2
 ·cases e
end Go.Proofs.YthlnlcijnoadcaaGreatDoor.Sh
end
