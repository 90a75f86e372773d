/- This file proves the row PathPuts: whatever comes in, the law PathPuts returns true. Condition: the package's table as it is laid. -/
import Derived.Test.YthlnlcijnoadcaaGreatDoorRows
import Derived.Test.YthlnlcijnoadcaaGreatDoorGTsP
import Derived.Test.YthlnlcijnoadcaaGreatDoorGPaJ
import Derived.Test.YthlnlcijnoadcaaGreatDoorGPaR
import Derived.WalkKit
import Derived.ProofKit
import Derived.OpenShut
import Derived.ChangeOld
import Derived.Below
noncomputable section
open Go.Proofs.Tryz
set_option linter.all false
namespace Go.Proofs.YthlnlcijnoadcaaGreatDoor.pathPuts
open Go
open Go.ChangeShapes Go.WideShapes Go.ChangeAt Go.RowKit
set_option linter.unusedVariables false
theorem own:ownKnob prog.godebug=none:=by kernel_rfl
theorem laidOut:laidOutB prog=true:=by kernel_rfl
theorem plain (P:Program) (laid:List (String×DataW Unit)) (w:World) (h:(laid.all λx=>x.2.handleName?.isNone)=true):laidMetH P laid w=laidMet P laid w:=by
 unfold laidMetH
 have h0:(laid.filter λx=>x.2.handleName?.isSome)=[]:=by
  rw [List.filter_eq_nil_iff]
  intro x hx
  have:=aah.1 h x hx
  rw [Option.isNone_iff_eq_none] at this
  simp [this]
 rw [h0]
def XK:List Int:=[0,1,28,2,29,14,24,3,30,22,20,15,25,17,4,8,31,27,13,23,21,19,16,7,26,12,18,6,11,5,10,9]
def OC:List Int:=[0,1,56,2,57,49,28,3,61,58,42,50,38,29,17,4,62,47,59,36,45,43,51,22,53,39,33,30,24,18,12,5,63,55,48,27,60,41,37,16,46,35,44,21,52,32,23,11,54,26,40,15,34,20,31,10,25,14,19,9,13,8,7,6]
theorem QX {W:World} (h:laidMetH prog Rows.pathPutsRow.laid W):Sy.Glb W:=by
 have h':laidMet prog Rows.pathPutsRow.laid W:=by rwa [plain _ _ _ (by kernel_rfl)] at h
 obtain ⟨ps,hL,_⟩:=h'
 obtain ⟨g1,t1,cs1,f1,p1,q1,_,_,_,_,UO,_⟩:=hL
 obtain ⟨g2,t2,cs2,f2,p2,q2,b1,b2,b3,b4,_,_⟩:=UO
 have e1:prog.globalNamed "math/bits.deBruijn64tab"=some 1:=by kernel_rfl
 obtain rfl:=ael (e1.symm.trans b1)
 obtain rfl:=ael ((show (prog.globals[1]?).map (·.type)=some 287 by kernel_rfl).symm.trans b2)
 have hc:=Sy.Ee (zs:=OC) (show prog.underlying 287=some (.array 64 5) by kernel_rfl) (by kernel_rfl) (by kernel_rfl) (by kernel_rfl) rfl b4
 unfold World.var? at b3
 rw [e1] at b3
 simp only [Option.bind_some] at b3
 intro g k xs hg
 unfold Sy.Fh at hg
 split at hg
 ·rename_i hb
  have hg1:g=1:=aaA hb
  subst hg1
  simp only [No,aae] at hg
  obtain ⟨rfl,rfl⟩:=hg
  split at b3
  ·rename_i cs ty fr hW
   cases b3
   exact ⟨_,_,_,hW,by rw [hc];rfl⟩
  ·cases b3
 ·cases hg
def vQ (os:Os):World:=
 let w0:=World.holding prog os ⟨#[],#[],[]⟩
 {w0 with heap:=(w0.heap.modify 0 fun
   | .cells _ t frozen=>.cells ⟨Sy.aU .u8 XK⟩ t frozen
   |o=>o).modify 1 fun
   | .cells _ t frozen=>.cells ⟨Sy.aU .u8 OC⟩ t frozen
   |o=>o}
theorem vi (os:Os) (args:Array Value):laidMetH prog Rows.pathPutsRow.laid ((vQ os).forCall (λ_ _=>0) ⟨#[],args,[]⟩).memory:=by
 rw [plain _ _ _ (by kernel_rfl)]
 exact laidMet_of_run' 8 (by kernel_rfl) (by kernel_rfl)
theorem QY {N:Nat} {f:Nat->Sy.aj} (h:∀i,i<N->(f i).OK):Tr.qw N (Tr.aq f)=true:=
 aah.2 λi hi=>by
  have hi:=h i (aan.1 hi)
  show (decide ((f i).key.length=32)&&decide ((f i).sign.length=32)&&decide ((f i).par.length=32))=true
  rw [Me hi.key.1,Me hi.sign.1,Me hi.par.1];rfl
theorem walk {N S:Nat} {f:Nat->Sy.aj} {a:Int} {x:Sy.aj} {ks:Nat->List Int} {sv:Nat->Nat} (hf:∀i,i<N->(f i).OK) (hx:x.OK) (hk:∀i,i<S->(ks i).length=32/\∀z∈ks i,0<=z/\z<256)
  (w:World) (adk:Sy.Glb w) {y0 y2:Value} (v0:Sy.VR (Sy.gX (Sy.e8 w) w.heap.size) (.aJ false 99 N (λi=>(f i).cells)) y0) (v2:Sy.VR (Sy.gX (Sy.e8 w) w.heap.size) (.agg (x.cells++[.aJ false 33 S (λi=>[.ints .u8 32 (ks i),.aJ false 0 (sv i) λ_=>[]])])) y2):
  Calls prog 3 #[y0,.int .i64 a,y2] w λe w'=>e= .returned (.bool true)/\Below w.heap.size w w':=
 Sy.ai.below (Pa.Hr (t:=f) (i:=a) (u:=x.used) (nm:=x.name) (k:=x.key) (sg:=x.sign) (p:=x.par) (un:=x.un) (S:=S) (ks:=ks) (sv:=sv) (QY hf) hf hx hk) ⟨_,_,v0,⟨_,_,rfl,⟨_,_,v2,rfl,rfl⟩,rfl⟩,rfl⟩ adk
set_option maxRecDepth 100000 in
theorem lifted (os:Os) (started:os.Started) (H:Type) (enc:TypeId×Value->H):
  ReturnsInHanded {} Tryz.checked os 3 .any (λw args=>(Rows.pathPutsSpec.pre enc prog f3 [] false w args/\laidMetH prog Rows.pathPutsRow.laid w)/\sizedMet enc prog f3 (OpenSpec.ofChange Rows.pathPutsSpec) false w args)
   (Rows.pathPutsSpec.post enc prog f3 false true false false):=by
 refine returnsInHanded_of_change_and (C:=Tryz.checked) (X:=λw _=>laidMetH prog Rows.pathPutsRow.laid w) (λ_ _ _ hh h=>h.of_heap hh) own started (by kernel_rfl) func3
  (ChangeSpec.witness_at (enc:=enc) (C:=Tryz.checked) (os:=os) (X:=λw _=>laidMetH prog Rows.pathPutsRow.laid w) false (vQ os) #[.slice none 0 0,.int .i64 0,.agg (#[.bool false,.int .i64 0]++Array.replicate 96 (.int .u8 0)++ #[.slice none 0 0,.slice none 0 0])] 8 rfl (by kernel_rfl) (by kernel_rfl) (by kernel_rfl) (by kernel_rfl) (by kernel_rfl) (vi os _)) ?_
 intro W base args ds gs before OD hW _ _ hL _
 have hval:∀(j:Nat) t v,f3.params[j]? =some t->args[j]? =some v->Value.okWide prog W .any base t v:=OD
 have hW':=hW
 obtain ⟨p,q,hA0,hV,rfl,hfz,s3⟩:=hW
 have hA:DataW.TrodAll enc prog W 0 (λ_=>true) true f3.params.toList args.toList ds p:=hA0
 rw [Tryz.params3] at hA hval
 obtain ⟨v0,vs0,d0,ds0,p0,q0,adl,rfl,rfl,h0,r0⟩:=trodAll_cons hA
 obtain ⟨v1,vs1,d1,ds1,p1,q1,adm,rfl,rfl,h1,r1⟩:=trodAll_cons r0
 obtain ⟨v2,vs2,d2,ds2,p2,q2,adn,rfl,rfl,h2,r2⟩:=trodAll_cons r1
 obtain ⟨rfl,rfl,rfl⟩:=trodAll_nil r2
 obtain rfl:args= #[v0,v1,v2]:=by cases args;simp_all
 obtain ⟨rfl,rfl⟩:=trodVars_none hV
 obtain ⟨N,f,y0,hf⟩:=Sy.Ef (P:=prog) (m:=W.heap.size) (t:=23) (e:=29) (t0:=4) (t1:=3) (t2:=25) (t3:=27) (t4:=26) (e1:=5) (e2:=3) (by kernel_rfl) ⟨Tryz.underlying29,by kernel_rfl,⟨rfl,rfl,rfl,rfl,rfl,rfl⟩,⟨rfl,rfl,rfl,rfl,rfl,rfl⟩,⟨by kernel_rfl,by kernel_rfl,by kernel_rfl,by kernel_rfl,by kernel_rfl,by kernel_rfl,by kernel_rfl⟩,⟨by kernel_rfl,by kernel_rfl,by kernel_rfl,by kernel_rfl,by kernel_rfl,by kernel_rfl,by kernel_rfl⟩⟩ (hval 0 23 v0 rfl rfl) h0
 obtain ⟨a,rfl,rfl,rfl,hw1⟩:=open_int (show prog.underlying 3=some (.int .i64) by kernel_rfl) (hval 1 3 v1 rfl rfl) h1
 obtain ⟨x,S,ks,sv,y2,hx,hk⟩:=Sy.Eg (P:=prog) (m:=W.heap.size) (t:=32) (tn:=29) (tl:=30) (ts:=109) (tk:=25) (tb:=79) (e1:=5) (eb:=44) (t0:=4) (t1:=3) (t2:=25) (t3:=27) (t4:=26) (e2:=3) ⟨Tryz.underlying32,by kernel_rfl,⟨rfl,rfl⟩,⟨rfl,rfl⟩,⟨by kernel_rfl,by kernel_rfl,by kernel_rfl⟩,Tryz.underlying109,by kernel_rfl,⟨rfl,rfl⟩,⟨rfl,rfl⟩,⟨by kernel_rfl,by kernel_rfl,by kernel_rfl,by kernel_rfl,by kernel_rfl,by kernel_rfl,by kernel_rfl⟩⟩ ⟨Tryz.underlying29,by kernel_rfl,⟨rfl,rfl,rfl,rfl,rfl,rfl⟩,⟨rfl,rfl,rfl,rfl,rfl,rfl⟩,⟨by kernel_rfl,by kernel_rfl,by kernel_rfl,by kernel_rfl,by kernel_rfl,by kernel_rfl,by kernel_rfl⟩,⟨by kernel_rfl,by kernel_rfl,by kernel_rfl,by kernel_rfl,by kernel_rfl,by kernel_rfl,by kernel_rfl⟩⟩ (hval 2 32 v2 rfl rfl) h2
 have lt:∀{t v d p},DataW.Trod enc prog W 0 (λ_=>true) true t v d p->∀x∈p,x.block<W.heap.size:=λh=>by obtain ⟨m,hm⟩:=h;exact DataW.trod_lt m _ _ _ hm
 clear hA0 OD
 refine (walk hf hx hk W (QX hL) y0 y2).mono λe W' ⟨he,bel⟩=>?_
 subst he
 exact ⟨_,rfl,_,_,_,[],_,[],hW',trodAll_mk1 (shut_bool (show prog.underlying 4=some .bool by kernel_rfl) _),(trodAll_cons_mk (Below.trod laidOut (by kernel_rfl) (abB (by kernel_rfl)) h0 bel (lt h0)) (trodAll_cons_mk (Below.trod laidOut (by kernel_rfl) (abB (by kernel_rfl)) h1 bel (lt h1)) (trodAll_cons_mk (Below.trod laidOut (by kernel_rfl) (abB (by kernel_rfl)) h2 bel (lt h2)) trodAll_mk0))),rfl,bel.frame _,λh=>by cases h⟩
theorem over:Rows.pathPutsRow.holds Tryz.pinned (OpenSpec.ofChange Rows.pathPutsSpec):=
 OpenClaim.holds_of_wide 3 f3 rfl rfl rfl rfl rfl rfl rfl ⟨rfl,rfl,rfl,rfl,rfl⟩ rfl rfl rfl rfl rfl (by kernel_rfl) func3 (by kernel_rfl)
  (abB (by kernel_rfl)) (by unfold Func.isWrapper;first|(rw [aaM (by decide+kernel)];kernel_rfl)|(rw [aaC (by decide+kernel)];exact ⟨rfl,rfl⟩))
  (λos started H enc _=>lifted os started H enc)
end Go.Proofs.YthlnlcijnoadcaaGreatDoor.pathPuts
