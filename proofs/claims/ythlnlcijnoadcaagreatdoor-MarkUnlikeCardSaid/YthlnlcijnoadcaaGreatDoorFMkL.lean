/- This file holds the texts MkH, MkI, MkL, a section each. No conditions beyond those in the theorems. -/
import Derived.Test.YthlnlcijnoadcaaGreatDoorFMkG
set_option linter.all false
set_option maxRecDepth 100000
section
namespace Go.Sy
open Go
section
variable {P:Program}
theorem PE.unone (z:Nat) {ps:List SV} (hz:psize ps=z) (hc:closedL ps=true):PE [.rows z 1 fun _=>ps] ps:=by
 refine ⟨by simp [psize,psz,hz],fun e ys q=>?_⟩
 obtain ⟨us,zs,h1,h2,h3,rfl⟩:=PR.consRows.1 q
 rw [PR] at h3;subst h3
 have:=h2 0 (by omega)
 rw [Nat.zero_mul,List.drop_zero,List.take_of_length_le (by omega)] at this
 rw [List.append_nil]
 exact PR.mono' (e:=⟨fun _=>none,e.z,e.n0,[],fun _=>none⟩) (e':=e) (fun _ _ h=>h) (Nat.le_refl _) ps us (fun j p hu _=>by rw [closedL_uses hc] at hu;cases hu) this
theorem FnTr.lendRows {f:FuncId} {z n:Nat} {g:Nat→List SV} {v:SV} {ex:Bool} (k:FnTr P f [.rol false z n fun i=>coolL (g i)] [] v []) (hs:stale v=false) (hr:ren (fun b=>b+1) v=v):FnTr P f [.rsl 0 z n n ex] [.b [.rows z n g]] v [.b [.rows z n g]]:=fun B e w args' hB hl R=>by
 refine (pure_call k (h:=[.b [.rows z n g]]) (vs:=[.rsl 0 z n n ex]) (t:=true) ?_ (fun _=>⟨hs,fun b hb=>by cases hb⟩) hl R (j:=1) (.inl rfl)).mono ?_
 ·simp [frzL,frzS,andT]
 ·rintro en w' ⟨v',rfl,e2,h1,h2,h3⟩
  rw [hr] at h1
  refine ⟨v',rfl,e2,h3.m,h1,?_⟩
  have:placeH [Blk.b [.rows z n g]] 1 (([]:List Blk).map (shB 1))=[.b [.rows z n g]]:=by simp [placeH]
  rw [this] at h2;exact h2
end
end Go.Sy
namespace Go.Proofs.YthlnlcijnoadcaaGreatDoor.Mk
open Go Go.Sy Tr Wi S2
abbrev nod0 (u:Bool) (nm:Int) (k s p:List Int):Nod:=⟨u,nm,k,s,p,[]⟩
abbrev cel0 (u:Bool) (nm:Int) (k s p:List Int):List SV:=[.bool u,.int .i64 nm,.ints .u8 32 k,.ints .u8 32 s,.ints .u8 32 p,.nl (.slice none 0 0)]
theorem lendOne {f:FuncId} {v:SV} {u:Bool} {nm:Int} {k s p:List Int} (g:FnTr Tryz.prog f [.rol false 99 1 (tng fun _=>nod0 u nm k s p)] [] v []) (hs:stale v=false) (hr:ren (fun b=>b+1) v=v):FnTr Tryz.prog f [.sl 0 0 0 99 1 1 true true] [.b (cel0 u nm k s p)] v [.b (cel0 u nm k s p)]:=by
 have pe:PE (cel0 u nm k s p) (nod0 u nm k s p).cells:=PE.last (ps:=[.bool u,.int .i64 nm,.ints .u8 32 k,.ints .u8 32 s,.ints .u8 32 p]) rfl rfl (VE.nilRo false .i64)
 have k1:FnTr Tryz.prog f [.rol false 99 1 fun _=>cel0 u nm k s p] [] v []:=FnTr.conv g ⟨fun e x hx=>by
  rcases hx with h|⟨n,o,cap,c,t,fr,h1,h2,h3,h4,h5,h6⟩
  ·exact .inl h
  ·exact .inr ⟨n,o,cap,c,t,fr,h1,h2,h3,fun i hi=>pe.2 _ _ (h4 i hi),h5,h6⟩,trivial⟩ trivial (VE.refl _) trivial
 exact FnTr.conv (FnTr.lendRows (ex:=true) (g:=fun _=>cel0 u nm k s p) k1 hs hr) ⟨VE.sl_rsl 0 99 1 1 true true,trivial⟩ ⟨PE.one 99 rfl rfl (PE.refl _),trivial⟩ (VE.refl _) ⟨PE.unone 99 rfl rfl,trivial⟩
def pickS:List SV→List Nat
 | [.sl b _ _ _ _ _ _ _]=>[b]
 |_=>[]
theorem tok1 {u:Bool} {nm:Int} {k s p:List Int} (hk:k.length=32) (hs:s.length=32) (hp:p.length=32):TOK 1 (fun _=>nod0 u nm k s p):=⟨by decide,fun _ _=>by simp,fun _ _=>hk,fun _ _=>hs,fun _ _=>hp⟩
noncomputable def mTree1E:Entry Tryz.prog:=.rdm 34 _ Tryz.func34 (by decide) rfl pickS (fun us h0=>match us,h0 with
 | [.sl 0 0 0 99 1 1 true true],[.b [.bool u,.int .i64 nm,.ints .u8 32 k,.ints .u8 32 s,.ints .u8 32 p,.nl (.slice none 0 0)]]=>some (.tup [.agg [.ints .u8 32 (dgL 1 (fun _=>nod0 u nm k s p) [] 0)],.bool (dgQ 1 (fun _=>nod0 u nm k s p) 0)],decide (k.length=32)&&decide (s.length=32)&&decide (p.length=32))
 |_,_=>none) fun us h0 v e=>by
 split at e
 ·simp only [Option.some.injEq,Prod.mk.injEq,Bool.and_eq_true,decide_eq_true_eq] at e
  obtain ⟨rfl,⟨h1,h2⟩,h3⟩:=e
  exact lendOne (mTree_fn (tok1 h1 h2 h3)) rfl rfl
 ·cases e
noncomputable def rTree1E:Entry Tryz.prog:=.rdm 35 _ Tryz.func35 (by decide) rfl pickS (fun us h0=>match us,h0 with
 | [.sl 0 0 0 99 1 1 true true],[.b [.bool u,.int .i64 nm,.ints .u8 32 k,.ints .u8 32 s,.ints .u8 32 p,.nl (.slice none 0 0)]]=>some (.agg [.ints .u8 32 (digV (fun _=>nod0 u nm k s p) [] 0)],decide (k.length=32)&&decide (s.length=32)&&decide (p.length=32)&&dgQ 1 (fun _=>nod0 u nm k s p) 0&&bytT 1 (fun _=>nod0 u nm k s p))
 |_,_=>none) fun us h0 v e=>by
 split at e
 ·simp only [Option.some.injEq,Prod.mk.injEq,Bool.and_eq_true,decide_eq_true_eq] at e
  obtain ⟨rfl,⟨⟨⟨h1,h2⟩,h3⟩,h4⟩,h5⟩:=e
  exact lendOne (rTree_fn (tok1 h1 h2 h3) h4 h5) rfl rfl
 ·cases e
noncomputable def bound1SE:Entry Tryz.prog:=.rdm 37 _ Tryz.func37 (by decide) rfl pickS (fun us h0=>match us,h0 with
 | [.sl 0 0 0 99 1 1 true true],[.b [.bool u,.int .i64 nm,.ints .u8 32 k,.ints .u8 32 s,.ints .u8 32 p,.nl (.slice none 0 0)]]=>some (.bool (checkB 1 (fun _=>nod0 u nm k s p)),decide (k.length=32)&&decide (s.length=32)&&decide (p.length=32))
 |_,_=>none) fun us h0 v e=>by
 split at e
 ·simp only [Option.some.injEq,Prod.mk.injEq,Bool.and_eq_true,decide_eq_true_eq] at e
  obtain ⟨rfl,⟨h1,h2⟩,h3⟩:=e
  exact lendOne (bound1_fn (tok1 h1 h2 h3)) rfl rfl
 ·cases e
noncomputable def alvD (l:List (Nat×Bool)):Ctr:=mk (P:=Tryz.prog) [mTree1E,rTree1E,bound1SE] [] (uT l)
theorem alvD_ok (l:List (Nat×Bool)):CtrSound Tryz.prog (alvD l):=mk_sound _ InlOK.nil _ _
theorem alv_a (u:Unit):(callS Tryz.prog (alvD [(12,true),(16,true),(18,true),(22,true)]) 60 Tryz.f31 [] []).map (fun x=>(x.1,x.2.2))=some (.bool true,andT (andT true (andT (decide ((dgL 1 (fun x=>nod0 true 3 (List.replicate 32 0) (List.replicate 32 0) (List.replicate 32 0)) [] 0).length=32)) (decide ((digV (fun x=>nod0 true 3 (List.replicate 32 0) (List.replicate 32 0) (List.replicate 32 0)) [] 0).length=32)))) (decide (dgL 1 (fun x=>nod0 true 3 (List.replicate 32 0) (List.replicate 32 0) (List.replicate 32 0)) [] 0=digV (fun x=>nod0 true 3 (List.replicate 32 0) (List.replicate 32 0) (List.replicate 32 0)) [] 0))):=by kernel_rfl
abbrev alT:Nat→Nod:=fun _=>nod0 true 3 (List.replicate 32 0) (List.replicate 32 0) (List.replicate 32 0)
theorem alQ:dgQ 1 alT 0=true:=by decide+kernel
theorem alL:dgL 1 alT [] 0=digV alT [] 0:=by unfold dgL;rw [alQ];rfl
theorem alive15_fn:FnTr Tryz.prog 31 [] [] (.bool true) []:=
 call0 (alvD_ok [(12,true),(16,true),(18,true),(22,true)]) 60 Tryz.func31 (alv_a ()) (by
  have h1:(digV (fun _=>nod0 true 3 (List.replicate 32 0) (List.replicate 32 0) (List.replicate 32 0)) [] 0).length=32:=digV_len ..
  rw [show dgL 1 (fun _=>nod0 true 3 (List.replicate 32 0) (List.replicate 32 0) (List.replicate 32 0)) [] 0=digV (fun _=>nod0 true 3 (List.replicate 32 0) (List.replicate 32 0) (List.replicate 32 0)) [] 0 from alL,h1,decide_eq_true rfl,decide_eq_true rfl];rfl) rfl
noncomputable def alive15E:Entry Tryz.prog:=.val 31 _ Tryz.func31 (by decide) rfl false 0 (fun vs=>match vs with
 | []=>some (.bool true,[],true)
 |_=>none) fun vs v new e=>by
 split at e
 ·simp only [Option.some.injEq,Prod.mk.injEq] at e
  obtain ⟨rfl,rfl,_⟩:=e
  exact alive15_fn
 ·cases e
end Go.Proofs.YthlnlcijnoadcaaGreatDoor.Mk
end
section
namespace Go.Proofs.YthlnlcijnoadcaaGreatDoor.Mk
open Go Go.Sy Tr Wi S2
section
variable {N:Nat} {t:Nat→Nod} {x:Int} {wo:List Int}
theorem dgL_len:(dgL N t wo x).length=32:=by
 unfold dgL
 cases dgQ N t x with
 |true=>exact digV_len ..
 |false=>rfl
theorem dgQ_mid (hT:TOK N t) (h:checkB N t=true):dgQ N t ((N/2:Nat):Int)=true:=by
 obtain ⟨n,hn,_,hN,_⟩:=check_parts hT h
 have:=sizes_le hn
 unfold dgQ
 rw [h,decide_eq_true (show (0:Int)≤((N/2:Nat):Int) by omega),decide_eq_true (show ((N/2:Nat):Int)<N by omega)];rfl
end
end Go.Proofs.YthlnlcijnoadcaaGreatDoor.Mk
end
section
namespace Go.Proofs.YthlnlcijnoadcaaGreatDoor.Mk
open Go Go.Sy Tr Wi S2
noncomputable def lvB:Code:=bodyOf Tryz.f84
noncomputable def lvT (x k:Int):List (Option SV):=slotsOf 14 [(0,.int .i64 x),(3,.int .i64 k)]
theorem lv_n (x:Int):(callS Tryz.prog (rnC [(5,true)]) 60 Tryz.f84 [.int .i64 x] []).map (fun x=>(x.1,x.2.2))=some (.int .i64 (-1),andT true (decide (x<0))):=by kernel_rfl
theorem lv_h (x:Int):resX (cutR [0,3] 0 ((execL Tryz.prog (rnC [(5,false)]) 60 0 4 (atoms lvB) ⟨slots0 Tryz.f84.ntmps [.int .i64 x],[],true⟩).map fun s=>(Exit.normal,s)))=some (.normal,lvT x 0,[]):=by kernel_rfl
theorem lv_h' (x:Int):obX (cutR [0,3] 0 ((execL Tryz.prog (rnC [(5,false)]) 60 0 4 (atoms lvB) ⟨slots0 Tryz.f84.ntmps [.int .i64 x],[],true⟩).map fun s=>(Exit.normal,s)))=(andT true !decide (x<0)):=by kernel_rfl
theorem lv_go (x k:Int):resX (cutR [0,3] 0 (exec Tryz.prog (rnC [(8,true)]) 60 0 (inner (inner (nthC 4 lvB))) ⟨lvT x k,[],true⟩))=some (.normal,lvT (IntKind.i64.wrap (x.tdiv 2)) (IntKind.i64.wrap (k+1)),[]):=by kernel_rfl
theorem lv_go' (x k:Int):obX (cutR [0,3] 0 (exec Tryz.prog (rnC [(8,true)]) 60 0 (inner (inner (nthC 4 lvB))) ⟨lvT x k,[],true⟩))=(andT true (x.tmod 2==1)):=by kernel_rfl
theorem lv_e (x k:Int):resX (cutR [3] 0 (exec Tryz.prog (rnC [(8,false)]) 60 0 (inner (inner (nthC 4 lvB))) ⟨lvT x k,[],true⟩))=some (.exit 0,slotsOf 14 [(3,.int .i64 k)],[]):=by kernel_rfl
theorem lv_e' (x k:Int):obX (cutR [3] 0 (exec Tryz.prog (rnC [(8,false)]) 60 0 (inner (inner (nthC 4 lvB))) ⟨lvT x k,[],true⟩))=(andT true !x.tmod 2==1):=by kernel_rfl
theorem lv_f (k:Int):resX (cutR [2] 0 (execA Tryz.prog (rnC []) 60 0 ((atoms lvB).drop 5) ⟨slotsOf 14 [(3,.int .i64 k)],[],true⟩))=some (.ret,slotsOf 14 [(2,.int .i64 k)],[]):=by kernel_rfl
theorem lv_f' (k:Int):obX (cutR [2] 0 (execA Tryz.prog (rnC []) 60 0 ((atoms lvB).drop 5) ⟨slotsOf 14 [(3,.int .i64 k)],[],true⟩))=(true):=by kernel_rfl
def bitJ (x:Nat) (j:Nat):Bool:=x/2^j%2==1
def rlvN (x:Nat):Nat:=(firstN (bitJ x) 64).getD 64
def rlvV (x:Int):Int:=bif decide (x<0) then-1 else ((rlvN x.toNat:Nat):Int)
theorem rlvN_ok {x:Nat} (h:x<2^63):rlvN x<64∧bitJ x (rlvN x)=false∧∀j,j<rlvN x→bitJ x j=true:=by
 unfold rlvN
 cases hq:firstN (bitJ x) 64 with
 |some n=>exact find_range hq
 |none=>
  have:=firstN_none hq 63 (by omega)
  unfold bitJ at this
  rw [Nat.div_eq_of_lt h] at this
  cases this
theorem tmod_bit (y:Nat):(((y:Nat):Int).tmod 2==1)=(y%2==1):=oddN y
theorem half_nat {q:Nat} (h:q<2^63):IntKind.i64.wrap ((q:Int).tdiv 2)=((q/2:Nat):Int):=by
 rw [show (2:Int)=((2:Nat):Int) from rfl, ←Int.ofNat_tdiv]
 exact wrapI (by omega) (by omega)
theorem rLevel_fn {x:Int} (hx:(Lit.int .i64 x).wf=true):FnTr Tryz.prog 84 [.int .i64 x] [] (.int .i64 (rlvV x)) []:=by
 have hr: -9223372036854775808≤x∧x≤9223372036854775807:=by simpa [Lit.wf,IntKind.has,IntKind.min,IntKind.max,IntKind.signed,IntKind.bits] using hx
 unfold rlvV
 by_cases h0:x<0
 ·rw [decide_eq_true h0]
  exact call0 (rnC_ok _) 60 Tryz.func84 (lv_n x) (by rw [decide_eq_true h0];rfl) rfl
 ·rw [decide_eq_false h0,_root_.cond_false]
  obtain ⟨y,rfl⟩:=Int.eq_ofNat_of_zero_le (show 0≤x by omega)
  rw [Int.toNat_natCast]
  obtain ⟨a1,a2,a3⟩:=rlvN_ok (x:=y) (by omega)
  generalize rlvN y=n at a1 a2 a3
  have hd:∀j,y/2^j≤y:=fun j=>Nat.div_le_self _ _
  refine FnTr.mk (vs:=[.int .i64 n]) Tryz.func84 rfl (x:=.ret) (s:=⟨slotsOf 14 [(2,.int .i64 n)],[],true⟩) ?_ (.inl rfl) (by kernel_rfl)
  refine TrL.itemsX (rnC_ok [(5,false)]) 60 4 _ 0 (Nat.zero_le _) (s1:=⟨lvT ((y/2^0:Nat):Int) ((0:Nat):Int),[],true⟩) _ (by have:=lv_h y;rw [show (y:Int)=((y/2^0:Nat):Int) by simp] at this ⊢;exact this) (lv_h' y) (by rw [decide_eq_false h0];rfl) (by decide) rfl ?_
  refine TrL.item 4 (by decide) (s1:=⟨slotsOf 14 [(3,.int .i64 n)],[],true⟩) (Tr.loop 0 (by kernel_rfl) (fun j=>⟨lvT ((y/2^j:Nat):Int) ((j:Nat):Int),[],true⟩) n (fun j hj=>?_) ?_) ?_
  ·have e:=lv_go ((y/2^j:Nat):Int) j
   have hh:IntKind.i64.wrap ((((y/2^j:Nat):Int)).tdiv 2)=((y/2^(j+1):Nat):Int):=by
    have g:y/2^(j+1)=y/2^j/2:=by rw [Nat.pow_succ,Nat.div_div_eq_div_mul]
    rw [g]
    exact half_nat (Nat.lt_of_le_of_lt (hd j) (by omega))
   rw [hh,wrapS (by omega)] at e
   exact Tr.cutX (rnC_ok [(8,true)]) 60 _ 0 (Nat.zero_le _) (s':=⟨lvT ((y/2^(j+1):Nat):Int) ((j+1:Nat):Int),[],true⟩) _ e (lv_go' _ _) (by rw [tmod_bit,show (y/2^j%2==1)=true from a3 j hj];rfl)
  ·exact Tr.cutX (rnC_ok [(8,false)]) 60 _ 0 (Nat.zero_le _) (s':=⟨slotsOf 14 [(3,.int .i64 n)],[],true⟩) _ (lv_e ((y/2^n:Nat):Int) n) (lv_e' _ _) (by rw [tmod_bit,show (y/2^n%2==1)=false from a2];rfl)
  ·exact TrL.cutA (rnC_ok []) 60 _ 0 (Nat.zero_le _) _ (lv_f n) (lv_f' n) rfl (by intro q;have:=congrArg List.length q;revert this;decide)
noncomputable def rLevelE:Entry Tryz.prog:=.val 84 _ Tryz.func84 (by decide) rfl false 0 (fun vs=>match vs with
 | [.int .i64 x]=>some (.int .i64 (rlvV x),[],(Lit.int .i64 x).wf)
 |_=>none) fun vs v new e=>by
 split at e
 ·simp only [Option.some.injEq,Prod.mk.injEq] at e
  obtain ⟨rfl,rfl,h⟩:=e
  exact rLevel_fn h
 ·cases e
noncomputable def chC (l:List (Nat×Bool)):Ctr:=mk (P:=Tryz.prog) [rLevelE] [] (uT l)
theorem chC_ok (l:List (Nat×Bool)):CtrSound Tryz.prog (chC l):=mk_sound _ InlOK.nil _ _
end Go.Proofs.YthlnlcijnoadcaaGreatDoor.Mk
end
