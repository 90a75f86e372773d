/- This file proves the contracts of the reference's turn, quarter and words of chapter 3, and that its turn is the program's. Conditions: words of 32 bits; lengths that memory bears. -/
import Derived.Test.YtibfpjeeanppjaaGreatYCcA
import Derived.Test.YtibfpjeeanppjaaGreatYShG
set_option linter.all false
set_option maxRecDepth 100000
namespace Go.Proofs.YtibfpjeeanppjaaGreat.R3
open Go Go.Sy Sh
abbrev V (n:Int):Int:=IntKind.u32.wrap n
def tu (x n:Int):Int:=V (c7 .u32 x n.toNat+bO .u32 x (IntKind.u64.wrap (32-n)).toNat)
def tuF:List SV→Option (SV×List Blk×Bool)
 | [.int .u32 x,.int .u64 n]=>some (.int .u32 (tu x n),[],decide (0≤n)&&decide (n≤32))
 |_=>none
noncomputable def tuE:Entry Tryz.prog:=.val 168 _ Tryz.func168 (by decide) rfl false 0 tuF fun vs v new e=>by
 unfold tuF at e
 split at e
 ·rename_i x n
  simp only [Option.some.injEq,Prod.mk.injEq,Bool.and_eq_true,decide_eq_true_eq] at e
  obtain ⟨rfl,rfl,h1,h2⟩:=e
  have hw:IntKind.u64.wrap (32-n)=32-n:=by simp [IntKind.wrap,IntKind.signed,IntKind.bits];omega
  exact aF mV 60 Tryz.func168 (p:=aa (aa true (decide (0≤n))) (decide (0≤IntKind.u64.wrap (32-n)))) (by kernel_rfl) (by rw [hw,decide_eq_true h1,decide_eq_true (show 0≤32-n by omega)];rfl) rfl
 ·cases e
def qq (a b c d:Int):Int×Int×Int×Int:=
 let a1:=V (a+b)
 let d1:=tu (cm .u32 d a1) 16
 let c1:=V (c+d1)
 let b1:=tu (cm .u32 b c1) 12
 let a2:=V (a1+b1)
 let d2:=tu (cm .u32 d1 a2) 8
 let c2:=V (c1+d2)
 (a2,tu (cm .u32 b1 c2) 7,c2,d2)
def mZ (x:List Int) (q:Nat×Nat×Nat×Nat):List Int:=
 (((x.set q.1 (qq (x.getD q.1 0) (x.getD q.2.1 0) (x.getD q.2.2.1 0) (x.getD q.2.2.2 0)).1).set q.2.1 (qq (x.getD q.1 0) (x.getD q.2.1 0) (x.getD q.2.2.1 0) (x.getD q.2.2.2 0)).2.1).set q.2.2.1 (qq (x.getD q.1 0) (x.getD q.2.1 0) (x.getD q.2.2.1 0) (x.getD q.2.2.2 0)).2.2.1).set q.2.2.2 (qq (x.getD q.1 0) (x.getD q.2.1 0) (x.getD q.2.2.1 0) (x.getD q.2.2.2 0)).2.2.2
noncomputable def Kt:bu:=mk (P:=Tryz.prog) [tuE] []
theorem kj:ag Tryz.prog Kt:=ah _ au.nil _ _
def ZX (a b c d:Int):Bool:=Cc.UR.any fun q=>decide (a=q.1)&&decide (b=q.2.1)&&decide (c=q.2.2.1)&&decide (d=q.2.2.2)
section
variable (x:List Int) (ex wh:Bool)
theorem aj3:(br Tryz.prog Kt 60 Tryz.f154 [.sl 0 0 0 1 16 16 ex wh,.int .i64 0,.int .i64 4,.int .i64 8,.int .i64 12] [.b [.ints .u32 16 (aH 16 x)]]).map (fun r=>(r.1,r.2.1.take 1,r.2.2))=
  some (.aT [],[.b [.ints .u32 16 (mZ (aH 16 x) (0,4,8,12))]],true):=by kernel_rfl
theorem aj4:(br Tryz.prog Kt 60 Tryz.f154 [.sl 0 0 0 1 16 16 ex wh,.int .i64 1,.int .i64 5,.int .i64 9,.int .i64 13] [.b [.ints .u32 16 (aH 16 x)]]).map (fun r=>(r.1,r.2.1.take 1,r.2.2))=
  some (.aT [],[.b [.ints .u32 16 (mZ (aH 16 x) (1,5,9,13))]],true):=by kernel_rfl
theorem aj5:(br Tryz.prog Kt 60 Tryz.f154 [.sl 0 0 0 1 16 16 ex wh,.int .i64 2,.int .i64 6,.int .i64 10,.int .i64 14] [.b [.ints .u32 16 (aH 16 x)]]).map (fun r=>(r.1,r.2.1.take 1,r.2.2))=
  some (.aT [],[.b [.ints .u32 16 (mZ (aH 16 x) (2,6,10,14))]],true):=by kernel_rfl
theorem aj6:(br Tryz.prog Kt 60 Tryz.f154 [.sl 0 0 0 1 16 16 ex wh,.int .i64 3,.int .i64 7,.int .i64 11,.int .i64 15] [.b [.ints .u32 16 (aH 16 x)]]).map (fun r=>(r.1,r.2.1.take 1,r.2.2))=
  some (.aT [],[.b [.ints .u32 16 (mZ (aH 16 x) (3,7,11,15))]],true):=by kernel_rfl
theorem aj7:(br Tryz.prog Kt 60 Tryz.f154 [.sl 0 0 0 1 16 16 ex wh,.int .i64 0,.int .i64 5,.int .i64 10,.int .i64 15] [.b [.ints .u32 16 (aH 16 x)]]).map (fun r=>(r.1,r.2.1.take 1,r.2.2))=
  some (.aT [],[.b [.ints .u32 16 (mZ (aH 16 x) (0,5,10,15))]],true):=by kernel_rfl
theorem aj8:(br Tryz.prog Kt 60 Tryz.f154 [.sl 0 0 0 1 16 16 ex wh,.int .i64 1,.int .i64 6,.int .i64 11,.int .i64 12] [.b [.ints .u32 16 (aH 16 x)]]).map (fun r=>(r.1,r.2.1.take 1,r.2.2))=
  some (.aT [],[.b [.ints .u32 16 (mZ (aH 16 x) (1,6,11,12))]],true):=by kernel_rfl
theorem aj9:(br Tryz.prog Kt 60 Tryz.f154 [.sl 0 0 0 1 16 16 ex wh,.int .i64 2,.int .i64 7,.int .i64 8,.int .i64 13] [.b [.ints .u32 16 (aH 16 x)]]).map (fun r=>(r.1,r.2.1.take 1,r.2.2))=
  some (.aT [],[.b [.ints .u32 16 (mZ (aH 16 x) (2,7,8,13))]],true):=by kernel_rfl
theorem aka:(br Tryz.prog Kt 60 Tryz.f154 [.sl 0 0 0 1 16 16 ex wh,.int .i64 3,.int .i64 4,.int .i64 9,.int .i64 14] [.b [.ints .u32 16 (aH 16 x)]]).map (fun r=>(r.1,r.2.1.take 1,r.2.2))=
  some (.aT [],[.b [.ints .u32 16 (mZ (aH 16 x) (3,4,9,14))]],true):=by kernel_rfl
end
end Go.Proofs.YtibfpjeeanppjaaGreat.R3
