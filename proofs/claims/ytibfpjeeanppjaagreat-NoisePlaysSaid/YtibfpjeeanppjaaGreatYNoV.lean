/- This file proves the row NoisePlays: whatever comes in, the law NoisePlays returns true. No conditions. -/
import Derived.Test.YtibfpjeeanppjaaGreatRows
import Derived.Test.YtibfpjeeanppjaaGreatYNoU
import Derived.Test.YtibfpjeeanppjaaGreatYSgT
import Derived.WalkKit
import Derived.ProofKit
import Derived.OpenShut
import Derived.ShutString
import Derived.ChangeOld
import Derived.Below
set_option linter.all false
namespace Go.Proofs.YtibfpjeeanppjaaGreat.noisePlays
open Go
open Go.ChangeShapes Go.WideShapes Go.ChangeAt Go.RowKit
set_option linter.unusedVariables false
theorem own:ownKnob Tryz.prog.godebug=none:=by kernel_rfl
theorem laidOut:laidOutB Tryz.prog=true:=by kernel_rfl
theorem E7 {zs:List Int} (h:zs.length=32∧∀z∈zs,0≤z∧z<256):Re.aj zs=true:=by
 refine Re.bI.2 ⟨h.1,?_⟩
 rw [List.all_eq_true]
 exact fun z hz=>Fe.nk.2 (h.2 z hz)
theorem walk {own peer aV:List Int} {bg:Bool} {N:Nat} {k:Nat→Int} {dr t:Nat→List Int} (ho:own.length=32∧∀z∈own,0≤z∧z<256) (hp:peer.length=32∧∀z∈peer,0≤z∧z<256) (hq:∀z∈aV,0≤z∧z<256)
  (hd:∀i,i<N→((dr i).length=32∧∀z∈dr i,0≤z∧z<256)∧∀z∈t i,0≤z∧z<256)
  (w:World) {y0 y1:Value} (v0:Sy.VR (Sy.jr (Sy.jq w) w.heap.size) (.agg [.bool bg,.ints .u8 32 own,.ints .u8 32 peer,.ro false .u8 aV]) y0) (v1:Sy.VR (Sy.jr (Sy.jq w) w.heap.size) (.oJ false 34 N (fun i=>[.int .i64 (k i),.ints .u8 32 (dr i),.ro false .u8 (t i)])) y1):
  Calls Tryz.prog 6 #[y0,y1] w fun e w'=>e= .returned (.bool true)∧Below w.heap.size w w':=
 Sy.ai.below (No.Jl (k:=k) (E7 ho) (E7 hp) (Bx.kg hq) (fun j hj=>E7 (hd j hj).1) (fun j hj=>Bx.kg (hd j hj).2)) ⟨_,_,v0,⟨_,_,v1,rfl,rfl⟩,rfl⟩
set_option maxRecDepth 100000 in
theorem lifted (os:Os) (started:os.Started) (H:Type) (enc:TypeId×Value→H):
  ReturnsInHanded {} Tryz.checked os 6 .any (Rows.noisePlaysSpec.pre6 enc Tryz.prog Tryz.f6 Rows.noisePlaysRow.domain false) (Rows.noisePlaysSpec.post enc Tryz.prog Tryz.f6 false true false false):=by
 refine returnsInHanded_of_change (C:=Tryz.checked) own started (by kernel_rfl) Tryz.func6
  (ChangeSpec.witness6 (enc:=enc) (C:=Tryz.checked) false ⟨#[],#[.agg (#[.bool false]++Array.replicate 64 (.int .u8 0)++ #[.slice none 0 0]),.slice none 0 0],[]⟩ 8 (by kernel_rfl) (by kernel_rfl) (by kernel_rfl) (by kernel_rfl)) ?_
 intro W base args ds gs before VW hW ao7 _
 have hval:∀(j:Nat) t v,Tryz.f6.params[j]? =some t→args[j]? =some v→Value.okWide Tryz.prog W .any base t v:=VW
 have hW':=hW
 obtain ⟨p,q,hA0,hV,rfl,hfz,x5⟩:=hW
 have hA:DataW.TrodAll enc Tryz.prog W 0 (fun _=>true) true Tryz.f6.params.toList args.toList ds p:=hA0
 rw [Tryz.params6] at hA hval
 obtain ⟨v0,vs0,d0,ds0,p0,q0,ajU,rfl,rfl,h0,r0⟩:=trodAll_cons hA
 obtain ⟨v1,vs1,d1,ds1,p1,q1,ajV,rfl,rfl,h1,r1⟩:=trodAll_cons r0
 obtain ⟨rfl,rfl,rfl⟩:=trodAll_nil r1
 obtain rfl:args= #[v0,v1]:=by cases args;simp_all
 obtain ⟨rfl,rfl⟩:=trodVars_none hV
 obtain ⟨bg,ao9,amQ,apa,y0,ho,hp,hq⟩:=Sy.E8 (P:=Tryz.prog) (m:=W.heap.size) (t:=66) (e1:=5) Tryz.underlying66 (by kernel_rfl) ⟨rfl,rfl,by kernel_rfl,by kernel_rfl⟩ ⟨rfl,rfl,by kernel_rfl,by kernel_rfl,by kernel_rfl,by kernel_rfl⟩ ⟨rfl,rfl⟩ ⟨rfl,rfl,by kernel_rfl,by kernel_rfl⟩ (hval 0 66 v0 rfl rfl) h0
 obtain ⟨N1,k1,n1,x1,y1,hd⟩:=Sy.E9 (P:=Tryz.prog) (m:=W.heap.size) (t:=67) (e:=69) (e1:=5) (by kernel_rfl) Tryz.underlying69 (by kernel_rfl) ⟨rfl,rfl,by kernel_rfl,by kernel_rfl⟩ ⟨rfl,rfl,by kernel_rfl,by kernel_rfl,by kernel_rfl,by kernel_rfl⟩ ⟨rfl,rfl,by kernel_rfl,by kernel_rfl⟩ (hval 1 67 v1 rfl rfl) h1
 have lt:∀{t v d p},DataW.Trod enc Tryz.prog W 0 (fun _=>true) true t v d p→∀x∈p,x.block<W.heap.size:=fun h=>by obtain ⟨m,hm⟩:=h;exact DataW.trod_lt m _ _ _ hm
 clear hA0 VW
 refine (walk ho hp hq hd W y0 y1).mono fun e W' ⟨he,bel⟩=>?_
 subst he
 exact ⟨_,rfl,_,_,_,[],_,[],hW',trodAll_mk1 (shut_bool Tryz.underlying4 _),(trodAll_cons_mk (Below.trod laidOut (by kernel_rfl) (of_decide_eq_true (by kernel_rfl)) h0 bel (lt h0)) (trodAll_cons_mk (Below.trod laidOut (by kernel_rfl) (of_decide_eq_true (by kernel_rfl)) h1 bel (lt h1)) trodAll_mk0)),rfl,bel.frame _,fun h=>by cases h⟩
theorem ajX:Rows.noisePlaysRow.holds Tryz.pinned (OpenSpec.ofChange Rows.noisePlaysSpec):=
 OpenClaim.holds_of_wide 6 Tryz.f6 rfl rfl rfl rfl rfl rfl rfl ⟨rfl,rfl,rfl,rfl,rfl⟩ rfl rfl rfl rfl rfl (by kernel_rfl) Tryz.func6 (by kernel_rfl)
  (of_decide_eq_true (by kernel_rfl)) (by unfold Func.isWrapper;first|(rw [if_pos (by decide+kernel)];kernel_rfl)|(rw [if_neg (by decide+kernel)];exact ⟨rfl,rfl⟩))
  (fun os started H enc _=>lifted os started H enc)
end Go.Proofs.YtibfpjeeanppjaaGreat.noisePlays
namespace Go.Proofs.YtibfpjeeanppjaaGreat
theorem noisePlaysProved:Rows.NoisePlaysSaid:=noisePlays.ajX
#print axioms noisePlaysProved
end Go.Proofs.YtibfpjeeanppjaaGreat
