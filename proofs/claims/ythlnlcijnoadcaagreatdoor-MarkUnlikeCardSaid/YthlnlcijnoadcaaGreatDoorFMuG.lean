/- This file holds the texts MkR, MuG, a section each. No conditions beyond those in the theorems. -/
import Derived.Test.YthlnlcijnoadcaaGreatDoorFTsP
import Derived.Test.YthlnlcijnoadcaaGreatDoorRows
import Derived.Test.YthlnlcijnoadcaaGreatDoorFMuF
import Derived.WalkKit
import Derived.ProofKit
import Derived.OpenShut
import Derived.ChangeOld
import Derived.Below
set_option linter.all false
section
namespace Go.Proofs.YthlnlcijnoadcaaGreatDoor.Mk
open Go Go.Sy Go.ChangeShapes Go.WideShapes Go.RowKit
end Go.Proofs.YthlnlcijnoadcaaGreatDoor.Mk
end
section
namespace Go.Proofs.YthlnlcijnoadcaaGreatDoor.markUnlike
open Go
open Go.ChangeShapes Go.WideShapes Go.ChangeAt Go.RowKit
set_option linter.unusedVariables false
theorem own:ownKnob Tryz.prog.godebug=none:=by kernel_rfl
theorem laidOut:laidOutB Tryz.prog=true:=by kernel_rfl
theorem plain (P:Program) (laid:List (String×DataW Unit)) (w:World) (h:(laid.all fun x=>x.2.handleName?.isNone)=true):laidMetH P laid w=laidMet P laid w:=by
 unfold laidMetH
 have h0:(laid.filter fun x=>x.2.handleName?.isSome)=[]:=by
  rw [List.filter_eq_nil_iff]
  intro x hx
  have:=List.all_eq_true.1 h x hx
  rw [Option.isNone_iff_eq_none] at this
  simp [this]
 rw [h0]
def tab32:List Int:=[0,1,28,2,29,14,24,3,30,22,20,15,25,17,4,8,31,27,13,23,21,19,16,7,26,12,18,6,11,5,10,9]
def tab64:List Int:=[0,1,56,2,57,49,28,3,61,58,42,50,38,29,17,4,62,47,59,36,45,43,51,22,53,39,33,30,24,18,12,5,63,55,48,27,60,41,37,16,46,35,44,21,52,32,23,11,54,26,40,15,34,20,31,10,25,14,19,9,13,8,7,6]
theorem glb_of {W:World} (h:laidMetH Tryz.prog Rows.markUnlikeRow.laid W):Sy.Glb W:=by
 have h':laidMet Tryz.prog Rows.markUnlikeRow.laid W:=by rwa [plain _ _ _ (by kernel_rfl)] at h
 obtain ⟨ps,hL,_⟩:=h'
 obtain ⟨g1,t1,cs1,f1,p1,q1,_,_,_,_,hL2,_⟩:=hL
 obtain ⟨g2,t2,cs2,f2,p2,q2,b1,b2,b3,b4,_,_⟩:=hL2
 have e1:Tryz.prog.globalNamed "math/bits.deBruijn64tab"=some 1:=by kernel_rfl
 obtain rfl:=Option.some.inj (e1.symm.trans b1)
 obtain rfl:=Option.some.inj ((show (Tryz.prog.globals[1]?).map (·.type)=some 287 by kernel_rfl).symm.trans b2)
 have hc:=Sy.laid_ints (zs:=tab64) (show Tryz.prog.underlying 287=some (.array 64 5) by kernel_rfl) (by kernel_rfl) (by kernel_rfl) (by kernel_rfl) rfl b4
 unfold World.var? at b3
 rw [e1] at b3
 simp only [Option.bind_some] at b3
 intro g k xs hg
 unfold Sy.gint at hg
 split at hg
 ·rename_i hb
  have hg1:g=1:=Nat.eq_of_beq_eq_true hb
  subst hg1
  simp only [Option.some.injEq,Prod.mk.injEq] at hg
  obtain ⟨rfl,rfl⟩:=hg
  split at b3
  ·rename_i cs ty fr hW
   cases b3
   exact ⟨_,_,_,hW,by rw [hc];rfl⟩
  ·cases b3
 ·cases hg
noncomputable def laidWorld (os:Os):World:=
 let w0:=World.holding Tryz.prog os ⟨#[],#[],[]⟩
 {w0 with heap:=(w0.heap.modify 0 fun
   | .cells _ t frozen=>.cells ⟨Sy.intsV .u8 tab32⟩ t frozen
   |o=>o).modify 1 fun
   | .cells _ t frozen=>.cells ⟨Sy.intsV .u8 tab64⟩ t frozen
   |o=>o}
theorem laidWorld_met (os:Os) (args:Array Value):laidMetH Tryz.prog Rows.markUnlikeRow.laid ((laidWorld os).forCall (fun _ _=>0) ⟨#[],args,[]⟩).memory:=by
 rw [plain _ _ _ (by kernel_rfl)]
 exact laidMet_of_run' 8 (by kernel_rfl) (by kernel_rfl)
theorem okT_of {N:Nat} {f:Nat→Sy.Nod} (h:∀i,i<N→(f i).OK):Tr.okT0 N (Tr.tng f)=true:=
 List.all_eq_true.2 fun i hi=>by
  have hi:=h i (List.mem_range.1 hi)
  show (decide ((f i).key.length=32)&&decide ((f i).sign.length=32)&&decide ((f i).par.length=32))=true
  rw [decide_eq_true hi.key.1,decide_eq_true hi.sign.1,decide_eq_true hi.par.1];rfl
theorem walk {N M:Nat} {f g:Nat→Sy.Nod} (hf:∀i,i<N→(f i).OK) (hg:∀i,i<M→(g i).OK)
  (w:World) (hglb:Sy.Glb w) {y0 y1:Value} (v0:Sy.VR (Sy.env0 (Sy.allZ w) w.heap.size) (.rol false 99 N (fun i=>(f i).cells)) y0) (v1:Sy.VR (Sy.env0 (Sy.allZ w) w.heap.size) (.rol false 99 M (fun i=>(g i).cells)) y1):
  Calls Tryz.prog 8 #[y0,y1] w fun e w'=>e= .returned (.bool true)∧Below w.heap.size w w':=
 Sy.FnTr.below (Mk.markUnlike_law (t:=f) (u:=g)   (okT_of hf) hf (okT_of hg) hg) ⟨_,_,v0,⟨_,_,v1,rfl,rfl⟩,rfl⟩ hglb
set_option maxRecDepth 100000 in
theorem lifted (os:Os) (started:os.Started) (H:Type) (enc:TypeId×Value→H):
  ReturnsInHanded {} Tryz.checked os 8 .any (fun w args=>(Rows.markUnlikeSpec.pre enc Tryz.prog Tryz.f8 [] false w args∧laidMetH Tryz.prog Rows.markUnlikeRow.laid w)∧sizedMet enc Tryz.prog Tryz.f8 (OpenSpec.ofChange Rows.markUnlikeSpec) false w args)
   (Rows.markUnlikeSpec.post enc Tryz.prog Tryz.f8 false true false false):=by
 refine returnsInHanded_of_change_and (C:=Tryz.checked) (X:=fun w _=>laidMetH Tryz.prog Rows.markUnlikeRow.laid w) (fun _ _ _ hh h=>h.of_heap hh) own started (by kernel_rfl) Tryz.func8
  (ChangeSpec.witness_at (enc:=enc) (C:=Tryz.checked) (os:=os) (X:=fun w _=>laidMetH Tryz.prog Rows.markUnlikeRow.laid w) false (laidWorld os) #[.slice none 0 0,.slice none 0 0] 8 rfl (by kernel_rfl) (by kernel_rfl) (by kernel_rfl) (by kernel_rfl) (by kernel_rfl) (laidWorld_met os _)) ?_
 intro W base args ds gs before hval0 hW _ _ hL _
 have hval:∀(j:Nat) t v,Tryz.f8.params[j]? =some t→args[j]? =some v→Value.okWide Tryz.prog W .any base t v:=hval0
 have hW':=hW
 obtain ⟨p,q,hA0,hV,rfl,hfz,hnd⟩:=hW
 have hA:DataW.TrodAll enc Tryz.prog W 0 (fun _=>true) true Tryz.f8.params.toList args.toList ds p:=hA0
 rw [Tryz.params8] at hA hval
 obtain ⟨v0,vs0,d0,ds0,p0,q0,hargs0,rfl,rfl,h0,r0⟩:=trodAll_cons hA
 obtain ⟨v1,vs1,d1,ds1,p1,q1,hargs1,rfl,rfl,h1,r1⟩:=trodAll_cons r0
 obtain ⟨rfl,rfl,rfl⟩:=trodAll_nil r1
 obtain rfl:args= #[v0,v1]:=by cases args;simp_all
 obtain ⟨rfl,rfl⟩:=trodVars_none hV
 obtain ⟨N,f,y0,hf⟩:=Sy.open_tree (P:=Tryz.prog) (m:=W.heap.size) (t:=23) (e:=29) (t0:=4) (t1:=3) (t2:=25) (t3:=27) (t4:=26) (e1:=5) (e2:=3) (by kernel_rfl) ⟨Tryz.underlying29,by kernel_rfl,⟨rfl,rfl,rfl,rfl,rfl,rfl⟩,⟨rfl,rfl,rfl,rfl,rfl,rfl⟩,⟨by kernel_rfl,by kernel_rfl,by kernel_rfl,by kernel_rfl,by kernel_rfl,by kernel_rfl,by kernel_rfl⟩,⟨by kernel_rfl,by kernel_rfl,by kernel_rfl,by kernel_rfl,by kernel_rfl,by kernel_rfl,by kernel_rfl⟩⟩ (hval 0 23 v0 rfl rfl) h0
 obtain ⟨M,g,y1,hg⟩:=Sy.open_tree (P:=Tryz.prog) (m:=W.heap.size) (t:=23) (e:=29) (t0:=4) (t1:=3) (t2:=25) (t3:=27) (t4:=26) (e1:=5) (e2:=3) (by kernel_rfl) ⟨Tryz.underlying29,by kernel_rfl,⟨rfl,rfl,rfl,rfl,rfl,rfl⟩,⟨rfl,rfl,rfl,rfl,rfl,rfl⟩,⟨by kernel_rfl,by kernel_rfl,by kernel_rfl,by kernel_rfl,by kernel_rfl,by kernel_rfl,by kernel_rfl⟩,⟨by kernel_rfl,by kernel_rfl,by kernel_rfl,by kernel_rfl,by kernel_rfl,by kernel_rfl,by kernel_rfl⟩⟩ (hval 1 23 v1 rfl rfl) h1
 have lt:∀{t v d p},DataW.Trod enc Tryz.prog W 0 (fun _=>true) true t v d p→∀x∈p,x.block<W.heap.size:=fun h=>by obtain ⟨m,hm⟩:=h;exact DataW.trod_lt m _ _ _ hm
 clear hA0 hval0
 refine (walk hf hg W (glb_of hL) y0 y1).mono fun e W' ⟨he,bel⟩=>?_
 subst he
 exact ⟨_,rfl,_,_,_,[],_,[],hW',trodAll_mk1 (shut_bool (show Tryz.prog.underlying 4=some .bool by kernel_rfl) _),(trodAll_cons_mk (Below.trod laidOut (by kernel_rfl) (of_decide_eq_true (by kernel_rfl)) h0 bel (lt h0)) (trodAll_cons_mk (Below.trod laidOut (by kernel_rfl) (of_decide_eq_true (by kernel_rfl)) h1 bel (lt h1)) trodAll_mk0)),rfl,bel.frame _,fun h=>by cases h⟩
theorem over:Rows.markUnlikeRow.holds Tryz.pinned (OpenSpec.ofChange Rows.markUnlikeSpec):=
 OpenClaim.holds_of_wide 8 Tryz.f8 rfl rfl rfl rfl rfl rfl rfl ⟨rfl,rfl,rfl,rfl,rfl⟩ rfl rfl rfl rfl rfl (by kernel_rfl) Tryz.func8 (by kernel_rfl)
  (of_decide_eq_true (by kernel_rfl)) (by unfold Func.isWrapper;first|(rw [if_pos (by decide+kernel)];kernel_rfl)|(rw [if_neg (by decide+kernel)];exact ⟨rfl,rfl⟩))
  (fun os started H enc _=>lifted os started H enc)
end Go.Proofs.YthlnlcijnoadcaaGreatDoor.markUnlike
end
