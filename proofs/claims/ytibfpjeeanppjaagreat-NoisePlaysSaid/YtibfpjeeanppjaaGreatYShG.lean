/- This file holds the texts ShE, ShF, ShG, a section each. No conditions beyond those in the theorems. -/
import Derived.Test.YtibfpjeeanppjaaGreatYShD
set_option linter.all false
set_option maxRecDepth 100000
section
namespace Go.Sy
open Go
variable {P:Program}
theorem ai.split {f:FuncId} {args:List SV} {h h1:List Blk} {v:SV} {k:IntKind} {xs:List Int} (g1:0<xs.length→ai P f (.ro false k xs::args) h v h1)
  (g2:xs=[]→ai P f (.nl (.slice none 0 0)::args) h v h1) (g3:xs=[]→∀a c,ai P f (.nl (.slice (some a) 0 c)::args) h v h1):ai P f (.ro false k xs::args) h v h1:=by
 by_cases hx:xs=[]
 ·intro B e w args' hB hl R
  obtain ⟨y,zs,h1,h2,rfl⟩:=hl
  rcases h1 with ⟨_,a,cap,rfl,ha⟩|⟨n,o,cap,c,t,fr,rfl,_⟩
  ·cases a with
   |none=>
    obtain rfl:=ha rfl
    exact g2 hx B e w _ hB ⟨.slice none 0 0,_,rfl,h2,rfl⟩ R
   |some a=>exact g3 hx a cap B e w _ hB ⟨_,_,rfl,h2,rfl⟩ R
  ·subst hx
   exact g3 rfl _ cap B e w _ hB ⟨_,_,rfl,h2,rfl⟩ R
 ·exact g1 (List.length_pos_iff.2 hx)
end Go.Sy
namespace Go.Proofs.YtibfpjeeanppjaaGreat.Sh
open Go Go.Sy
theorem PA {xs:List Int} (h:xs.length≤274877906944):ai Tryz.prog 141 [.ro false .u8 xs] [] (.sl 0 0 0 1 xs.length xs.length false true) [.b [.ints .u8 xs.length xs]]:=by
 refine ai.split (fun h0=>?_) (fun hx=>?_) (fun hx a c=>?_)
 ·have k:(br Tryz.prog (mk (P:=Tryz.prog) [] []) 60 Tryz.f141 [.ro false .u8 xs] []).map (fun x=>x)=
    some (.sl 0 0 0 1 (0+xs.length) (0+xs.length) false true,[.b [.ints .u8 (0+xs.length) (List.replicate 0 0++xs)]],aa (aa true (decide (0<xs.length))) (aa true (decide (0+xs.length≤2^38)))):=by kernel_rfl
  rw [Nat.zero_add,decide_eq_true h0,decide_eq_true (show xs.length≤2^38 by omega)] at k
  obtain ⟨x,h2,h3⟩:=Option.map_eq_some_iff.1 k
  subst h3
  exact ai.dw mV Tryz.func141 h2
 ·subst hx
  exact (aF mV 60 Tryz.func141 (v:=.nl (.slice none 0 0)) (p:=true) (by kernel_rfl) rfl rfl).empty .u8 false true
 ·subst hx
  have k:br Tryz.prog (mk (P:=Tryz.prog) [] []) 60 Tryz.f141 [.nl (.slice (some a) 0 c)] []=some (.sl 0 0 0 1 0 0 false true,[.b [.ints .u8 0 []]],true):=by kernel_rfl
  exact ai.dw mV Tryz.func141 k
def PB:List SV→Option (SV×List Blk×Bool)
 | [.ro false .u8 xs]=>some (.sl 0 0 0 1 xs.length xs.length false true,[.b [.ints .u8 xs.length xs]],decide (xs.length≤274877906944))
 |_=>none
noncomputable def Ph:Entry Tryz.prog:=.val 141 _ Tryz.func141 (by decide) rfl true 1 PB fun vs v new e=>by
 unfold PB at e
 split at e
 ·simp only [Option.some.injEq,Prod.mk.injEq,decide_eq_true_eq] at e
  obtain ⟨rfl,rfl,h⟩:=e
  exact PA h
 ·cases e
def A4 (n:Int) (i:Nat):Int:=IntKind.u8.wrap (bO .u64 (c7 .u64 (W n) 3) (8*i))
def HY (n:Int):List Int:=[0,0,0,0,0,0,0,IntKind.u8.wrap (bO .u64 (W n) 61),A4 n 7,A4 n 6,A4 n 5,A4 n 4,A4 n 3,A4 n 2,A4 n 1,A4 n 0]
def JA (n:Int):List Int:=[A4 n 7,A4 n 6,A4 n 5,A4 n 4,A4 n 3,A4 n 2,A4 n 1,A4 n 0]
theorem aa3 (n:Int):ai Tryz.prog 165 [.int .i64 n,.int .i64 16] [] (.ro true .u8 (HY n)) []:=
 ai.frozen (N:=16) (ex:=true) (wh:=true) (ai.dw mV Tryz.func165 (n:=200) (by kernel_rfl)) rfl
theorem Us (n:Int):ai Tryz.prog 165 [.int .i64 n,.int .i64 8] [] (.ro true .u8 (JA n)) []:=
 ai.frozen (N:=8) (ex:=true) (wh:=true) (ai.dw mV Tryz.func165 (n:=200) (by kernel_rfl)) rfl
def agx:List SV→Option (SV×List Blk×Bool)
 | [.int .i64 n,.int .i64 m]=>bif m==16 then some (.ro true .u8 (HY n),[],true) else bif m==8 then some (.ro true .u8 (JA n),[],true) else none
 |_=>none
noncomputable def alc:Entry Tryz.prog:=.val 165 _ Tryz.func165 (by decide) rfl false 0 agx fun vs v new e=>by
 unfold agx at e
 split at e
 ·rename_i n m
  by_cases h1:m=16
  ·subst h1;cases e;exact aa3 n
  ·rw [beq_false_of_ne h1] at e
   by_cases h2:m=8
   ·subst h2;cases e;exact Us n
   ·rw [beq_false_of_ne h2] at e;cases e
 ·cases e
end Go.Proofs.YtibfpjeeanppjaaGreat.Sh
end
section
namespace Go.Proofs.YtibfpjeeanppjaaGreat.Sh
open Go Go.Sy
noncomputable def pB:Code:=aE Tryz.f143
noncomputable def paC (b:Bool):bu:=mk (P:=Tryz.prog) [Ph,alc] [] fun i=>if i=21 then some b else none
theorem tD (b:Bool):ag Tryz.prog (paC b):=ah _ au.nil _ _
noncomputable def pS (m:Nat) (l:List Int) (n pc sz:Int):St:=⟨slotsOf 30 [(1,.int .i64 n),(2,.int .i64 pc),(3,.int .i64 sz),(9,.sl 0 0 0 1 m m false true)],[.b [.ints .u8 m l]],true⟩
def xN (a b:Nat):Bool:=aa (aa (aa true (decide (a=b)&&(decide (b≤b)&&true))) (decide (a=b))) (decide (b+1≤2^38))
section
variable (m:Nat) (l xs:List Int) (n pc sz:Int)
theorem HZ:(aW Tryz.prog (paC true) 60 0 2 (atoms pB) ⟨aO Tryz.f143.ntmps [.ro false .u8 xs,.int .i64 n,.int .i64 pc,.int .i64 sz],[],true⟩).bind (St.cut [1,2,3,9] 1)=
  some {pS (xs.length+1) (xs++[128]) n pc sz with ob:=aa (aa true (aa true (decide (xs.length≤274877906944)))) (xN xs.length xs.length)}:=by kernel_rfl
theorem aa4:(exec Tryz.prog (paC true) 60 0 (inner (inner (aA 2 pB))) (pS m l n pc sz)).bind (fun r=>(r.2.cut [1,2,3,9] 1).map fun q=>(r.1,q))=
  some (.normal,{pS (m+1) (l++[0]) n pc sz with ob:=aa (aa (aa true (pc != 0)) ((m:Int).tmod pc != IntKind.i64.wrap (pc-sz))) (xN l.length m)}):=by kernel_rfl
theorem aa5:(exec Tryz.prog (paC false) 60 0 (inner (inner (aA 2 pB))) (pS m l n pc sz)).bind (fun r=>(r.2.cut [1,2,3,9] 1).map fun q=>(r.1,q))=
  some (.exit 0,{pS m l n pc sz with ob:=aa (aa true (pc != 0)) (!((m:Int).tmod pc != IntKind.i64.wrap (pc-sz)))}):=by kernel_rfl
end
theorem cG {a:Nat} (h:a<274877906944):xN a a=true:=by
 unfold xN
 rw [decide_eq_true rfl,decide_eq_true (Nat.le_refl a),decide_eq_true (show a+1≤2^38 by omega)]
 rfl
def cU (len pc q:Nat):Nat:=(q+pc-(len+1)%pc)%pc
theorem sg {len pc q:Nat} (hq:q<pc):(len+1+cU len pc q)%pc=q∧∀j,j<cU len pc q→(len+1+j)%pc≠q:=by
 have hm:(len+1)%pc<pc:=Nat.mod_lt _ (by omega)
 unfold cU
 generalize hr:(len+1)%pc=r at*
 have key:∀j,(len+1+j)%pc=(r+j)%pc:=fun j=>by rw [←hr,Nat.mod_add_mod]
 by_cases h:r≤q
 ·have e:(q+pc-r)%pc=q-r:=by
   rw [show q+pc-r=(q-r)+pc by omega,Nat.add_mod_right,Nat.mod_eq_of_lt (by omega)]
  rw [e]
  refine ⟨by rw [key,show r+(q-r)=q by omega,Nat.mod_eq_of_lt hq],fun j hj=>?_⟩
  rw [key,Nat.mod_eq_of_lt (by omega)];omega
 ·have e:(q+pc-r)%pc=q+pc-r:=Nat.mod_eq_of_lt (by omega)
  rw [e]
  refine ⟨by rw [key,show r+(q+pc-r)=q+pc by omega,Nat.add_mod_right,Nat.mod_eq_of_lt hq],fun j hj=>?_⟩
  rw [key]
  by_cases h2:r+j<pc
  ·rw [Nat.mod_eq_of_lt h2];omega
  ·rw [show r+j=(r+j-pc)+pc by omega,Nat.add_mod_right,Nat.mod_eq_of_lt (by omega)];omega
def eJ (xs:List Int) (pc q:Nat):List Int:=xs++[128]++List.replicate (cU xs.length pc q) 0
theorem iM (xs:List Int) (pc q:Nat):(eJ xs pc q).length=xs.length+1+cU xs.length pc q:=by simp [eJ];omega
theorem H6 {xs:List Int} (n:Int) {pc sz q:Nat} (hq:q+sz=pc) (hsz:0<sz) (hpc:pc<1000) (hx:xs.length<274877900000):
  Tr Tryz.prog none 0 (aA 2 pB) (pS (xs.length+1) (xs++[128]) n pc sz) .normal (pS (xs.length+1+cU xs.length pc q) (eJ xs pc q) n pc sz):=by
 obtain ⟨k1,k2⟩:=sg (len:=xs.length) (show q<pc by omega)
 have hK:cU xs.length pc q<pc:=Nat.mod_lt _ (by omega)
 have hne:(((pc:Nat):Int) != 0)=true:=bne_iff_ne.2 (by omega)
 have hw:IntKind.i64.wrap ((pc:Int)-(sz:Int))=((q:Nat):Int):=by rw [wrap_i64 _ (by omega) (by omega)];omega
 have hm:∀j:Nat,((xs.length+1+j:Nat):Int).tmod (pc:Int)=(((xs.length+1+j)%pc:Nat):Int):=fun j=>by
  rw [Int.tmod_eq_emod_of_nonneg (by omega),Int.natCast_emod]
 have key:=Tr.loop (P:=Tryz.prog) (ro:=none) (k:=0) 0 (c:=aA 2 pB) (by kernel_rfl) (fun j:Nat=>pS (xs.length+1+j) (xs++[128]++List.replicate j 0) n pc sz) (cU xs.length pc q) (s':=pS (xs.length+1+cU xs.length pc q) (eJ xs pc q) n pc sz) (fun j hj=>?_) ?_
 ·refine Tr.pre key (bq.same rfl ?_)
  show [_]=[_]
  simp
 ·have k:=aa4 (xs.length+1+j) (xs++[128]++List.replicate j 0) n pc sz
  have hl:(xs++[128]++List.replicate j 0).length=xs.length+1+j:=by simp;omega
  rw [hne,hm,hw,hl,cG (by omega),bne_iff_ne.2 (show (((xs.length+1+j)%pc:Nat):Int)≠((q:Nat):Int) from fun h=>k2 j hj (by omega))] at k
  refine Tr.post (Tr.cut (tD true) 60 _ 1 (by omega) k rfl) (bq.same rfl ?_)
  show [_]=[_]
  rw [List.replicate_succ', ←List.append_assoc];rfl
 ·have k:=aa5 (xs.length+1+cU xs.length pc q) (eJ xs pc q) n pc sz
  rw [hne,hm,hw,k1] at k
  exact Tr.post (Tr.cut (tD false) 60 _ 1 (by omega) k (by simp [aa])) (bq.same rfl rfl)
theorem sy {xs:List Int} (n:Int) (hx:xs.length<274877900000):ai Tryz.prog 143 [.ro false .u8 xs,.int .i64 n,.int .i64 128,.int .i64 16] [] (.ro true .u8 (eJ xs 128 112++HY n)) []:=by
 have hK:cU xs.length 128 112<128:=Nat.mod_lt _ (by omega)
 have hl:=iM xs 128 112
 refine ai.frozen (N:=xs.length+1+cU xs.length 128 112+16) (ex:=false) (wh:=true) ?_ (by rw [List.length_append,hl];rfl)
 refine ai.cu (tD true) 60 3 1 Tryz.func143 (by simp) rfl (fun s' x h=>?_) (s:=pS (xs.length+1+cU xs.length 128 112) (eJ xs 128 112) n 128 16)
  (p:=aa true (aa (aa (aa true (decide ((eJ xs 128 112).length=xs.length+1+cU xs.length 128 112)&&(decide (xs.length+1+cU xs.length 128 112≤xs.length+1+cU xs.length 128 112)&&true))) (decide ((eJ xs 128 112).length=xs.length+1+cU xs.length 128 112))) (decide (xs.length+1+cU xs.length 128 112+16≤2^38)))) (by kernel_rfl) (by rw [hl];simp only [av,decide_eq_true_eq,decide_true,Bool.and_self,true_and,Nat.le_refl];omega) rfl rfl
 refine bf.items (tD true) 60 2 _ 1 (by simp) (HZ xs n 128 16) (by rw [cG (by omega),decide_eq_true (by omega)];rfl) (by decide) ?_
 exact bf.item 2 (by decide) (Tr.pre (H6 n (pc:=128) (sz:=16) (q:=112) rfl (by decide) (by decide) hx) (bq.same rfl rfl)) h
theorem Fx {xs:List Int} (n:Int) (hx:xs.length<274877900000):ai Tryz.prog 143 [.ro false .u8 xs,.int .i64 n,.int .i64 64,.int .i64 8] [] (.ro true .u8 (eJ xs 64 56++JA n)) []:=by
 have hK:cU xs.length 64 56<64:=Nat.mod_lt _ (by omega)
 have hl:=iM xs 64 56
 refine ai.frozen (N:=xs.length+1+cU xs.length 64 56+8) (ex:=false) (wh:=true) ?_ (by rw [List.length_append,hl];rfl)
 refine ai.cu (tD true) 60 3 1 Tryz.func143 (by simp) rfl (fun s' x h=>?_) (s:=pS (xs.length+1+cU xs.length 64 56) (eJ xs 64 56) n 64 8)
  (p:=aa true (aa (aa (aa true (decide ((eJ xs 64 56).length=xs.length+1+cU xs.length 64 56)&&(decide (xs.length+1+cU xs.length 64 56≤xs.length+1+cU xs.length 64 56)&&true))) (decide ((eJ xs 64 56).length=xs.length+1+cU xs.length 64 56))) (decide (xs.length+1+cU xs.length 64 56+8≤2^38)))) (by kernel_rfl) (by rw [hl];simp only [av,decide_eq_true_eq,decide_true,Bool.and_self,true_and,Nat.le_refl];omega) rfl rfl
 refine bf.items (tD true) 60 2 _ 1 (by simp) (HZ xs n 64 8) (by rw [cG (by omega),decide_eq_true (by omega)];rfl) (by decide) ?_
 exact bf.item 2 (by decide) (Tr.pre (H6 n (pc:=64) (sz:=8) (q:=56) rfl (by decide) (by decide) hx) (bq.same rfl rfl)) h
def agy:List SV→Option (SV×List Blk×Bool)
 | [.ro false .u8 xs,.int .i64 n,.int .i64 pc,.int .i64 sz]=>bif pc==128&&sz==16 then some (.ro true .u8 (eJ xs 128 112++HY n),[],decide (xs.length<274877900000)) else bif pc==64&&sz==8 then some (.ro true .u8 (eJ xs 64 56++JA n),[],decide (xs.length<274877900000)) else none
 |_=>none
noncomputable def HV:Entry Tryz.prog:=.val 143 _ Tryz.func143 (by decide) rfl true 0 agy fun vs v new e=>by
 unfold agy at e
 split at e
 ·rename_i xs n pc sz
  by_cases h1:(pc==128&&sz==16)=true
  ·rw [h1] at e
   simp only [Bool.and_eq_true,beq_iff_eq] at h1
   obtain ⟨rfl,rfl⟩:=h1
   simp only [cond_true,Option.some.injEq,Prod.mk.injEq,decide_eq_true_eq] at e
   obtain ⟨rfl,rfl,h⟩:=e
   exact sy n h
  ·rw [Bool.not_eq_true] at h1
   rw [h1] at e
   by_cases h2:(pc==64&&sz==8)=true
   ·rw [h2] at e
    simp only [Bool.and_eq_true,beq_iff_eq] at h2
    obtain ⟨rfl,rfl⟩:=h2
    simp only [cond_true,cond_false,Option.some.injEq,Prod.mk.injEq,decide_eq_true_eq] at e
    obtain ⟨rfl,rfl,h⟩:=e
    exact Fx n h
   ·rw [Bool.not_eq_true] at h2
    rw [h2] at e
    cases e
 ·cases e
end Go.Proofs.YtibfpjeeanppjaaGreat.Sh
end
section
namespace Go.Proofs.YtibfpjeeanppjaaGreat.Sh
open Go Go.Sy
def ann (vs:List SV):List Nat:=match vs with
 | [_,_,.ptr b _ _]=>[b]
 |_=>[]
def PC:Option (SV×List Blk×Bool)→List Int
 |some (.agg [.ints _ _ l],_,_)=>l
 |_=>[]
noncomputable def kL:List Int:=PC (br Tryz.prog (mk (P:=Tryz.prog) [] []) 60 Tryz.f161 [] [])
noncomputable def bL:List Int:=PC (br Tryz.prog (mk (P:=Tryz.prog) [] []) 60 Tryz.f138 [] [])
noncomputable def PD:List SV→Option (SV×List Blk×Bool)
 | []=>some (.agg [.ints .u64 80 kL],[],true)
 |_=>none
noncomputable def aay:Entry Tryz.prog:=.val 161 _ Tryz.func161 (by decide) rfl false 0 PD fun vs v new e=>by
 unfold PD at e
 split at e
 ·cases e
  exact aF mV 60 Tryz.func161 (p:=true) (by kernel_rfl) rfl rfl
 ·cases e
noncomputable def nA:List SV→Option (SV×List Blk×Bool)
 | []=>some (.agg [.ints .u64 8 bL],[],true)
 |_=>none
noncomputable def vH:Entry Tryz.prog:=.val 138 _ Tryz.func138 (by decide) rfl false 0 nA fun vs v new e=>by
 unfold nA at e
 split at e
 ·cases e
  exact aF mV 60 Tryz.func138 (p:=true) (by kernel_rfl) rfl rfl
 ·cases e
noncomputable def chC:bu:=mk (P:=Tryz.prog) [] [] fun i=>if i=6 then some false else none
theorem DS:ag Tryz.prog chC:=ah _ au.nil _ _
noncomputable def PG:List SV→Option (SV×List Blk×Bool)
 | [.ro false .u8 xs,.int .i64 n]=>some (.fn (.func 164) [] [.ptr 0 0 0,.ptr 1 0 0],[.b [.ro false .u8 xs],.b [.int .i64 n]],!decide (n<1))
 |_=>none
noncomputable def y4:Entry Tryz.prog:=.val 142 _ Tryz.func142 (by decide) rfl true 2 PG fun vs v new e=>by
 unfold PG at e
 split at e
 ·rename_i xs n
  simp only [Option.some.injEq,Prod.mk.injEq] at e
  obtain ⟨rfl,rfl,h⟩:=e
  exact aQ DS 30 Tryz.func142 2 (by simp) (p:=aa true (!decide (n<1))) (by kernel_rfl) (by rw [h];rfl) rfl rfl
 ·cases e
end Go.Proofs.YtibfpjeeanppjaaGreat.Sh
end
