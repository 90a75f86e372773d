/- This file proves the row BoxSealsUpto: where what comes in is of bulk at most 1048576, the law BoxSeals returns true. No other conditions. -/
import Derived.Test.YtibfpjeeanppjaaGreatRows
import Derived.Test.YtibfpjeeanppjaaGreatUBxK
import Derived.Test.YtibfpjeeanppjaaGreatUBxN
import Derived.WalkKit
import Derived.ProofKit
import Derived.OpenShut
import Derived.ShutString
import Derived.ChangeOld
import Derived.Below
import Derived.JoinedCond
set_option linter.all false
namespace Go.Proofs.YtibfpjeeanppjaaGreat.boxSeals
open Go
open Jo
open Go.ChangeShapes Go.WideShapes Go.ChangeAt Go.RowKit
set_option linter.unusedVariables false
theorem own:ownKnob Tryz.prog.godebug=none:=by kernel_rfl
theorem laidOut:laidOutB Tryz.prog=true:=by kernel_rfl
theorem walk {bs info text:List Int} (hl:bs.length=64) (hb:∀z∈bs,0≤z∧z<256) (h1:∀z∈info,0≤z∧z<256) (h2:∀z∈text,0≤z∧z<256) (l1:info.length<270000000000) (l2:text.length<270000000000)
  (w:World) {y0 y1:Value} (v0:Sy.VR (Sy.iI (Sy.jZ w) w.heap.size) (.ro false .u8 info) y0) (v1:Sy.VR (Sy.iI (Sy.jZ w) w.heap.size) (.ro false .u8 text) y1):
  Calls Tryz.prog 3 #[.agg ⟨Sy.aV .u8 bs++[y0,y1]⟩] w fun e w'=>e= .returned (.bool true)∧Below w.heap.size w w':=
 Sy.aj.below (Bx.FR (zK hl hb).2 (zK hl hb).1 (Bx.tP h1) (Bx.tP h2) l1 l2) ⟨_,_,Zx hl v0 v1,rfl,rfl⟩
set_option maxRecDepth 100000 in
theorem lifted (os:Os) (started:os.Started) (H:Type) (enc:TypeId×Value→H) (F:Stop.Interp):
  ReturnsInHanded {} Tryz.checked os 3 .any ((Rows.OpenSpec.upto Rows.boxSealsSpec).pre6 enc Tryz.prog Tryz.f3 Rows.boxSealsUptoRow.domain false) (((Rows.OpenSpec.upto Rows.boxSealsSpec).at F).post enc Tryz.prog Tryz.f3 false true false false):=by
 refine returnsInHanded_of_cond (C:=Tryz.checked) (s:=Rows.OpenSpec.upto Rows.boxSealsSpec) (k:=Rows.uptoSmall) rfl own started (by kernel_rfl) Tryz.func3
  (OpenSpec.witness (enc:=enc) (C:=Tryz.checked) (s:=Rows.OpenSpec.upto Rows.boxSealsSpec) (k:=Rows.uptoSmall) rfl false ⟨#[],#[.agg ⟨List.replicate 64 (.int .u8 0)++[.slice none 0 0,.slice none 0 0]⟩],[]⟩ 8 (by kernel_rfl) (by kernel_rfl) (by kernel_rfl)
   (x:=([.agg [.agg (List.replicate 32 (.lit (.int .u8 0))),.agg (List.replicate 32 (.lit (.int .u8 0))),.nil,.nil]],[],[])) (by kernel_rfl) rfl (by kernel_rfl)) ?_
 intro W base args ds gs before Sg hW ajC hk _
 have hval:∀(j:Nat) t v,Tryz.f3.params[j]? =some t→args[j]? =some v→Value.okWide Tryz.prog W .any base t v:=Sg
 have hW':=hW
 obtain ⟨p,q,hA0,hV,rfl,hfz,vP⟩:=hW
 have hA:DataW.TrodAll enc Tryz.prog W 0 (fun _=>true) true Tryz.f3.params.toList args.toList ds p:=hA0
 rw [Tryz.params3] at hA hval
 obtain ⟨v0,vs0,d0,ds0,p0,q0,aeZ,rfl,rfl,h0,r0⟩:=trodAll_cons hA
 obtain ⟨rfl,rfl,rfl⟩:=trodAll_nil r0
 obtain rfl:args= #[v0]:=by cases args;simp_all
 obtain ⟨rfl,rfl⟩:=trodVars_none hV
 obtain ⟨bs,zf,ys,rfl,l0,b0,ly,hy⟩:=Sy.BM (P:=Tryz.prog) (m:=W.heap.size) (t:=26) (T:=24) (e:=5) (i:=2) (n:=64) (k:=2) (B:=270000000000) Tryz.underlying26 (by kernel_rfl) (by kernel_rfl) (by kernel_rfl) (by kernel_rfl) (by kernel_rfl) (by kernel_rfl) (by decide) (by kernel_rfl) (hval 0 26 v0 rfl rfl) h0
  (fun parts elems spare hd hm=>by subst hd;exact BN hk hm)
 obtain ⟨y0,e0,v0,c0,n0⟩:=hy 0 (by omega)
 obtain ⟨y1,e1,v1,c1,n1⟩:=hy 1 (by omega)
 obtain rfl:=UP ly e0 e1
 have lt:∀{t v d p},DataW.Trod enc Tryz.prog W 0 (fun _=>true) true t v d p→∀x∈p,x.block<W.heap.size:=fun h=>by obtain ⟨m,hm⟩:=h;exact DataW.trod_lt m _ _ _ hm
 clear hA0 Sg
 refine (walk l0 b0 c0 c1 n0 n1 W v0 v1).mono fun e W' ⟨he,bel⟩=>?_
 subst he
 exact ⟨_,rfl,_,_,_,[],_,[],hW',trodAll_mk1 (shut_bool Tryz.underlying4 _),
  (trodAll_cons_mk (Below.trod laidOut (by kernel_rfl) (of_decide_eq_true (by kernel_rfl)) h0 bel (lt h0)) trodAll_mk0),rfl,bel.frame _,fun h=>by cases h⟩
theorem ae0:Rows.boxSealsUptoRow.holds Tryz.pinned (Rows.OpenSpec.upto Rows.boxSealsSpec):=
 OpenClaim.holds_of_cond 3 Tryz.f3 rfl rfl rfl rfl rfl rfl rfl ⟨rfl,rfl,rfl,rfl,rfl⟩ rfl rfl rfl rfl rfl (by kernel_rfl) Tryz.func3 (by kernel_rfl)
  (of_decide_eq_true (by kernel_rfl)) (by unfold Func.isWrapper;first|(rw [if_pos (by decide+kernel)];kernel_rfl)|(rw [if_neg (by decide+kernel)];exact ⟨rfl,rfl⟩))
  (fun os started H enc _ F=>lifted os started H enc F)
end Go.Proofs.YtibfpjeeanppjaaGreat.boxSeals
namespace Go.Proofs.YtibfpjeeanppjaaGreat
theorem boxSealsProved:Rows.BoxSealsUptoSaid:=boxSeals.ae0
#print axioms boxSealsProved
end Go.Proofs.YtibfpjeeanppjaaGreat
