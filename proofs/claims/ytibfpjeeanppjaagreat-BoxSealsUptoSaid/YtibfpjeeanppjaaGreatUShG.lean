/- This file holds the texts ShE, ShF, ShG, a section each. No conditions beyond those in the theorems. -/
import Derived.Test.YtibfpjeeanppjaaGreatUShD
set_option linter.all false
set_option maxRecDepth 100000
section
namespace Go.Sy
open Go
variable {P:Program}
theorem aj.split {f:FuncId} {args:List SV} {h h1:List Blk} {v:SV} {k:IntKind} {xs:List Int} (g1:0<xs.length→aj P f (.ro false k xs::args) h v h1)
  (g2:xs=[]→aj P f (.nl (.slice none 0 0)::args) h v h1) (g3:xs=[]→∀a c,aj P f (.nl (.slice (some a) 0 c)::args) h v h1):aj P f (.ro false k xs::args) h v h1:=by
 by_cases hx:xs=[]
 ·intro B e w args' hB hl R
  obtain ⟨y,zs,h1,h2,rfl⟩:=hl
  rcases h1 with ⟨_,a,cap,rfl,ha⟩|⟨n,o,cap,c,t,fr,rfl,_⟩
  ·cases a with
   |none=>
    obtain rfl:=ha rfl
    exact g2 hx B e w _ hB ⟨.slice none 0 0,_,rfl,h2,rfl⟩ R
   |some a=>exact g3 hx a cap B e w _ hB ⟨_,_,rfl,h2,rfl⟩ R
  ·subst hx
   exact g3 rfl _ cap B e w _ hB ⟨_,_,rfl,h2,rfl⟩ R
 ·exact g1 (List.length_pos_iff.2 hx)
end Go.Sy
namespace Go.Proofs.YtibfpjeeanppjaaGreat.Sh
open Go Go.Sy
theorem M7 {xs:List Int} (h:xs.length≤274877906944):aj Tryz.prog 141 [.ro false .u8 xs] [] (.sl 0 0 0 1 xs.length xs.length false true) [.b [.ints .u8 xs.length xs]]:=by
 refine aj.split (fun h0=>?_) (fun hx=>?_) (fun hx a c=>?_)
 ·have k:(bE Tryz.prog (mk (P:=Tryz.prog) [] []) 60 Tryz.f141 [.ro false .u8 xs] []).map (fun x=>x)=
    some (.sl 0 0 0 1 (0+xs.length) (0+xs.length) false true,[.b [.ints .u8 (0+xs.length) (List.replicate 0 0++xs)]],aa (aa true (decide (0<xs.length))) (aa true (decide (0+xs.length≤2^38)))):=by kernel_rfl
  rw [Nat.zero_add,decide_eq_true h0,decide_eq_true (show xs.length≤2^38 by omega)] at k
  obtain ⟨x,h2,h3⟩:=Option.map_eq_some_iff.1 k
  subst h3
  exact aj.dU lV Tryz.func141 h2
 ·subst hx
  exact (aP lV 60 Tryz.func141 (v:=.nl (.slice none 0 0)) (p:=true) (by kernel_rfl) rfl rfl).empty .u8 false true
 ·subst hx
  have k:bE Tryz.prog (mk (P:=Tryz.prog) [] []) 60 Tryz.f141 [.nl (.slice (some a) 0 c)] []=some (.sl 0 0 0 1 0 0 false true,[.b [.ints .u8 0 []]],true):=by kernel_rfl
  exact aj.dU lV Tryz.func141 k
def M8:List SV→Option (SV×List Blk×Bool)
 | [.ro false .u8 xs]=>some (.sl 0 0 0 1 xs.length xs.length false true,[.b [.ints .u8 xs.length xs]],decide (xs.length≤274877906944))
 |_=>none
noncomputable def MS:Entry Tryz.prog:=.val 141 _ Tryz.func141 (by decide) rfl true 1 M8 fun vs v new e=>by
 unfold M8 at e
 split at e
 ·simp only [Option.some.injEq,Prod.mk.injEq,decide_eq_true_eq] at e
  obtain ⟨rfl,rfl,h⟩:=e
  exact M7 h
 ·cases e
def y5 (n:Int) (i:Nat):Int:=IntKind.u8.wrap (bh .u64 (cV .u64 (W n) 3) (8*i))
def Ft (n:Int):List Int:=[0,0,0,0,0,0,0,IntKind.u8.wrap (bh .u64 (W n) 61),y5 n 7,y5 n 6,y5 n 5,y5 n 4,y5 n 3,y5 n 2,y5 n 1,y5 n 0]
def GQ (n:Int):List Int:=[y5 n 7,y5 n 6,y5 n 5,y5 n 4,y5 n 3,y5 n 2,y5 n 1,y5 n 0]
theorem X0 (n:Int):aj Tryz.prog 165 [.int .i64 n,.int .i64 16] [] (.ro true .u8 (Ft n)) []:=
 aj.frozen (N:=16) (ex:=true) (wh:=true) (aj.dU lV Tryz.func165 (n:=200) (by kernel_rfl)) rfl
theorem RA (n:Int):aj Tryz.prog 165 [.int .i64 n,.int .i64 8] [] (.ro true .u8 (GQ n)) []:=
 aj.frozen (N:=8) (ex:=true) (wh:=true) (aj.dU lV Tryz.func165 (n:=200) (by kernel_rfl)) rfl
def acU:List SV→Option (SV×List Blk×Bool)
 | [.int .i64 n,.int .i64 m]=>bif m==16 then some (.ro true .u8 (Ft n),[],true) else bif m==8 then some (.ro true .u8 (GQ n),[],true) else none
 |_=>none
noncomputable def ahw:Entry Tryz.prog:=.val 165 _ Tryz.func165 (by decide) rfl false 0 acU fun vs v new e=>by
 unfold acU at e
 split at e
 ·rename_i n m
  by_cases h1:m=16
  ·subst h1;cases e;exact X0 n
  ·rw [beq_false_of_ne h1] at e
   by_cases h2:m=8
   ·subst h2;cases e;exact RA n
   ·rw [beq_false_of_ne h2] at e;cases e
 ·cases e
end Go.Proofs.YtibfpjeeanppjaaGreat.Sh
end
section
namespace Go.Proofs.YtibfpjeeanppjaaGreat.Sh
open Go Go.Sy
noncomputable def pB:Code:=aH Tryz.f143
noncomputable def paC (b:Bool):bK:=mk (P:=Tryz.prog) [MS,ahw] [] fun i=>if i=21 then some b else none
theorem rK (b:Bool):ag Tryz.prog (paC b):=ai _ aF.nil _ _
noncomputable def pS (m:Nat) (l:List Int) (n pc sz:Int):St:=⟨slotsOf 30 [(1,.int .i64 n),(2,.int .i64 pc),(3,.int .i64 sz),(9,.sl 0 0 0 1 m m false true)],[.b [.ints .u8 m l]],true⟩
def tK (a b:Nat):Bool:=aa (aa (aa true (decide (a=b)&&(decide (b≤b)&&true))) (decide (a=b))) (decide (b+1≤2^38))
section
variable (m:Nat) (l xs:List Int) (n pc sz:Int)
theorem Fu:(az Tryz.prog (paC true) 60 0 2 (atoms pB) ⟨aT Tryz.f143.ntmps [.ro false .u8 xs,.int .i64 n,.int .i64 pc,.int .i64 sz],[],true⟩).bind (St.cut [1,2,3,9] 1)=
  some {pS (xs.length+1) (xs++[128]) n pc sz with ob:=aa (aa true (aa true (decide (xs.length≤274877906944)))) (tK xs.length xs.length)}:=by kernel_rfl
theorem X1:(exec Tryz.prog (paC true) 60 0 (inner (inner (ak 2 pB))) (pS m l n pc sz)).bind (fun r=>(r.2.cut [1,2,3,9] 1).map fun q=>(r.1,q))=
  some (.normal,{pS (m+1) (l++[0]) n pc sz with ob:=aa (aa (aa true (pc != 0)) ((m:Int).tmod pc != IntKind.i64.wrap (pc-sz))) (tK l.length m)}):=by kernel_rfl
theorem X2:(exec Tryz.prog (paC false) 60 0 (inner (inner (ak 2 pB))) (pS m l n pc sz)).bind (fun r=>(r.2.cut [1,2,3,9] 1).map fun q=>(r.1,q))=
  some (.exit 0,{pS m l n pc sz with ob:=aa (aa true (pc != 0)) (!((m:Int).tmod pc != IntKind.i64.wrap (pc-sz)))}):=by kernel_rfl
end
theorem cr {a:Nat} (h:a<274877906944):tK a a=true:=by
 unfold tK
 rw [decide_eq_true rfl,decide_eq_true (Nat.le_refl a),decide_eq_true (show a+1≤2^38 by omega)]
 rfl
def cR (len pc q:Nat):Nat:=(q+pc-(len+1)%pc)%pc
theorem qz {len pc q:Nat} (hq:q<pc):(len+1+cR len pc q)%pc=q∧∀j,j<cR len pc q→(len+1+j)%pc≠q:=by
 have hm:(len+1)%pc<pc:=Nat.mod_lt _ (by omega)
 unfold cR
 generalize hr:(len+1)%pc=r at*
 have key:∀j,(len+1+j)%pc=(r+j)%pc:=fun j=>by rw [←hr,Nat.mod_add_mod]
 by_cases h:r≤q
 ·have e:(q+pc-r)%pc=q-r:=by
   rw [show q+pc-r=(q-r)+pc by omega,Nat.add_mod_right,Nat.mod_eq_of_lt (by omega)]
  rw [e]
  refine ⟨by rw [key,show r+(q-r)=q by omega,Nat.mod_eq_of_lt hq],fun j hj=>?_⟩
  rw [key,Nat.mod_eq_of_lt (by omega)];omega
 ·have e:(q+pc-r)%pc=q+pc-r:=Nat.mod_eq_of_lt (by omega)
  rw [e]
  refine ⟨by rw [key,show r+(q+pc-r)=q+pc by omega,Nat.add_mod_right,Nat.mod_eq_of_lt hq],fun j hj=>?_⟩
  rw [key]
  by_cases h2:r+j<pc
  ·rw [Nat.mod_eq_of_lt h2];omega
  ·rw [show r+j=(r+j-pc)+pc by omega,Nat.add_mod_right,Nat.mod_eq_of_lt (by omega)];omega
def eB (xs:List Int) (pc q:Nat):List Int:=xs++[128]++List.replicate (cR xs.length pc q) 0
theorem g9 (xs:List Int) (pc q:Nat):(eB xs pc q).length=xs.length+1+cR xs.length pc q:=by simp [eB];omega
theorem Fv {xs:List Int} (n:Int) {pc sz q:Nat} (hq:q+sz=pc) (hsz:0<sz) (hpc:pc<1000) (hx:xs.length<274877900000):
  Tr Tryz.prog none 0 (ak 2 pB) (pS (xs.length+1) (xs++[128]) n pc sz) .normal (pS (xs.length+1+cR xs.length pc q) (eB xs pc q) n pc sz):=by
 obtain ⟨k1,k2⟩:=qz (len:=xs.length) (show q<pc by omega)
 have hK:cR xs.length pc q<pc:=Nat.mod_lt _ (by omega)
 have hne:(((pc:Nat):Int) != 0)=true:=bne_iff_ne.2 (by omega)
 have hw:IntKind.i64.wrap ((pc:Int)-(sz:Int))=((q:Nat):Int):=by rw [wrap_i64 _ (by omega) (by omega)];omega
 have hm:∀j:Nat,((xs.length+1+j:Nat):Int).tmod (pc:Int)=(((xs.length+1+j)%pc:Nat):Int):=fun j=>by
  rw [Int.tmod_eq_emod_of_nonneg (by omega),Int.natCast_emod]
 have key:=Tr.loop (P:=Tryz.prog) (ro:=none) (k:=0) 0 (c:=ak 2 pB) (by kernel_rfl) (fun j:Nat=>pS (xs.length+1+j) (xs++[128]++List.replicate j 0) n pc sz) (cR xs.length pc q) (s':=pS (xs.length+1+cR xs.length pc q) (eB xs pc q) n pc sz) (fun j hj=>?_) ?_
 ·refine Tr.pre key (aU.same rfl ?_)
  show [_]=[_]
  simp
 ·have k:=X1 (xs.length+1+j) (xs++[128]++List.replicate j 0) n pc sz
  have hl:(xs++[128]++List.replicate j 0).length=xs.length+1+j:=by simp;omega
  rw [hne,hm,hw,hl,cr (by omega),bne_iff_ne.2 (show (((xs.length+1+j)%pc:Nat):Int)≠((q:Nat):Int) from fun h=>k2 j hj (by omega))] at k
  refine Tr.post (Tr.cut (rK true) 60 _ 1 (by omega) k rfl) (aU.same rfl ?_)
  show [_]=[_]
  rw [List.replicate_succ', ←List.append_assoc];rfl
 ·have k:=X2 (xs.length+1+cR xs.length pc q) (eB xs pc q) n pc sz
  rw [hne,hm,hw,k1] at k
  exact Tr.post (Tr.cut (rK false) 60 _ 1 (by omega) k (by simp [aa])) (aU.same rfl rfl)
theorem qH {xs:List Int} (n:Int) (hx:xs.length<274877900000):aj Tryz.prog 143 [.ro false .u8 xs,.int .i64 n,.int .i64 128,.int .i64 16] [] (.ro true .u8 (eB xs 128 112++Ft n)) []:=by
 have hK:cR xs.length 128 112<128:=Nat.mod_lt _ (by omega)
 have hl:=g9 xs 128 112
 refine aj.frozen (N:=xs.length+1+cR xs.length 128 112+16) (ex:=false) (wh:=true) ?_ (by rw [List.length_append,hl];rfl)
 refine aj.cg (rK true) 60 3 1 Tryz.func143 (by simp) rfl (fun s' x h=>?_) (s:=pS (xs.length+1+cR xs.length 128 112) (eB xs 128 112) n 128 16)
  (p:=aa true (aa (aa (aa true (decide ((eB xs 128 112).length=xs.length+1+cR xs.length 128 112)&&(decide (xs.length+1+cR xs.length 128 112≤xs.length+1+cR xs.length 128 112)&&true))) (decide ((eB xs 128 112).length=xs.length+1+cR xs.length 128 112))) (decide (xs.length+1+cR xs.length 128 112+16≤2^38)))) (by kernel_rfl) (by rw [hl];simp only [au,decide_eq_true_eq,decide_true,Bool.and_self,true_and,Nat.le_refl];omega) rfl rfl
 refine aG.items (rK true) 60 2 _ 1 (by simp) (Fu xs n 128 16) (by rw [cr (by omega),decide_eq_true (by omega)];rfl) (by decide) ?_
 exact aG.item 2 (by decide) (Tr.pre (Fv n (pc:=128) (sz:=16) (q:=112) rfl (by decide) (by decide) hx) (aU.same rfl rfl)) h
theorem Df {xs:List Int} (n:Int) (hx:xs.length<274877900000):aj Tryz.prog 143 [.ro false .u8 xs,.int .i64 n,.int .i64 64,.int .i64 8] [] (.ro true .u8 (eB xs 64 56++GQ n)) []:=by
 have hK:cR xs.length 64 56<64:=Nat.mod_lt _ (by omega)
 have hl:=g9 xs 64 56
 refine aj.frozen (N:=xs.length+1+cR xs.length 64 56+8) (ex:=false) (wh:=true) ?_ (by rw [List.length_append,hl];rfl)
 refine aj.cg (rK true) 60 3 1 Tryz.func143 (by simp) rfl (fun s' x h=>?_) (s:=pS (xs.length+1+cR xs.length 64 56) (eB xs 64 56) n 64 8)
  (p:=aa true (aa (aa (aa true (decide ((eB xs 64 56).length=xs.length+1+cR xs.length 64 56)&&(decide (xs.length+1+cR xs.length 64 56≤xs.length+1+cR xs.length 64 56)&&true))) (decide ((eB xs 64 56).length=xs.length+1+cR xs.length 64 56))) (decide (xs.length+1+cR xs.length 64 56+8≤2^38)))) (by kernel_rfl) (by rw [hl];simp only [au,decide_eq_true_eq,decide_true,Bool.and_self,true_and,Nat.le_refl];omega) rfl rfl
 refine aG.items (rK true) 60 2 _ 1 (by simp) (Fu xs n 64 8) (by rw [cr (by omega),decide_eq_true (by omega)];rfl) (by decide) ?_
 exact aG.item 2 (by decide) (Tr.pre (Fv n (pc:=64) (sz:=8) (q:=56) rfl (by decide) (by decide) hx) (aU.same rfl rfl)) h
def acV:List SV→Option (SV×List Blk×Bool)
 | [.ro false .u8 xs,.int .i64 n,.int .i64 pc,.int .i64 sz]=>bif pc==128&&sz==16 then some (.ro true .u8 (eB xs 128 112++Ft n),[],decide (xs.length<274877900000)) else bif pc==64&&sz==8 then some (.ro true .u8 (eB xs 64 56++GQ n),[],decide (xs.length<274877900000)) else none
 |_=>none
noncomputable def Fm:Entry Tryz.prog:=.val 143 _ Tryz.func143 (by decide) rfl true 0 acV fun vs v new e=>by
 unfold acV at e
 split at e
 ·rename_i xs n pc sz
  by_cases h1:(pc==128&&sz==16)=true
  ·rw [h1] at e
   simp only [Bool.and_eq_true,beq_iff_eq] at h1
   obtain ⟨rfl,rfl⟩:=h1
   simp only [cond_true,Option.some.injEq,Prod.mk.injEq,decide_eq_true_eq] at e
   obtain ⟨rfl,rfl,h⟩:=e
   exact qH n h
  ·rw [Bool.not_eq_true] at h1
   rw [h1] at e
   by_cases h2:(pc==64&&sz==8)=true
   ·rw [h2] at e
    simp only [Bool.and_eq_true,beq_iff_eq] at h2
    obtain ⟨rfl,rfl⟩:=h2
    simp only [cond_true,cond_false,Option.some.injEq,Prod.mk.injEq,decide_eq_true_eq] at e
    obtain ⟨rfl,rfl,h⟩:=e
    exact Df n h
   ·rw [Bool.not_eq_true] at h2
    rw [h2] at e
    cases e
 ·cases e
end Go.Proofs.YtibfpjeeanppjaaGreat.Sh
end
section
namespace Go.Proofs.YtibfpjeeanppjaaGreat.Sh
open Go Go.Sy
def ajp (vs:List SV):List Nat:=match vs with
 | [_,_,.ptr b _ _]=>[b]
 |_=>[]
def M9:Option (SV×List Blk×Bool)→List Int
 |some (.agg [.ints _ _ l],_,_)=>l
 |_=>[]
noncomputable def kL:List Int:=M9 (bE Tryz.prog (mk (P:=Tryz.prog) [] []) 60 Tryz.f161 [] [])
noncomputable def bL:List Int:=M9 (bE Tryz.prog (mk (P:=Tryz.prog) [] []) 60 Tryz.f138 [] [])
noncomputable def Na:List SV→Option (SV×List Blk×Bool)
 | []=>some (.agg [.ints .u64 80 kL],[],true)
 |_=>none
noncomputable def Xs:Entry Tryz.prog:=.val 161 _ Tryz.func161 (by decide) rfl false 0 Na fun vs v new e=>by
 unfold Na at e
 split at e
 ·cases e
  exact aP lV 60 Tryz.func161 (p:=true) (by kernel_rfl) rfl rfl
 ·cases e
noncomputable def Nb:List SV→Option (SV×List Blk×Bool)
 | []=>some (.agg [.ints .u64 8 bL],[],true)
 |_=>none
noncomputable def Xz:Entry Tryz.prog:=.val 138 _ Tryz.func138 (by decide) rfl false 0 Nb fun vs v new e=>by
 unfold Nb at e
 split at e
 ·cases e
  exact aP lV 60 Tryz.func138 (p:=true) (by kernel_rfl) rfl rfl
 ·cases e
noncomputable def chC:bK:=mk (P:=Tryz.prog) [] [] fun i=>if i=6 then some false else none
theorem BP:ag Tryz.prog chC:=ai _ aF.nil _ _
noncomputable def Nc:List SV→Option (SV×List Blk×Bool)
 | [.ro false .u8 xs,.int .i64 n]=>some (.fn (.func 164) [] [.ptr 0 0 0,.ptr 1 0 0],[.b [.ro false .u8 xs],.b [.int .i64 n]],!decide (n<1))
 |_=>none
noncomputable def xh:Entry Tryz.prog:=.val 142 _ Tryz.func142 (by decide) rfl true 2 Nc fun vs v new e=>by
 unfold Nc at e
 split at e
 ·rename_i xs n
  simp only [Option.some.injEq,Prod.mk.injEq] at e
  obtain ⟨rfl,rfl,h⟩:=e
  exact dF BP 30 Tryz.func142 2 (by simp) (p:=aa true (!decide (n<1))) (by kernel_rfl) (by rw [h];rfl) rfl rfl
 ·cases e
end Go.Proofs.YtibfpjeeanppjaaGreat.Sh
end
