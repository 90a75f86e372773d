/- This file holds the texts ShD, ShE, ShF, a section each. No conditions beyond those in the theorems. -/
import Derived.Test.YthlnlcijnoadcaaGreatDoorFShC
set_option linter.all false
set_option maxRecDepth 100000
section
namespace Go.Proofs.YthlnlcijnoadcaaGreatDoor.Sh
open Go Go.Sy
noncomputable def cB:Code:=bodyOf Tryz.f136
noncomputable def coC (a c:Bool):Ctr:=mk (P:=Tryz.prog) [growE] [] (fun i=>if i=12 then some a else if i=20 then some false else if i=28 then some c else none) fun i=>i=33
theorem coC_ok (a c:Bool):CtrSound Tryz.prog (coC a c):=mk_sound _ InlOK.nil _ _
noncomputable def c1 (xss:List (List Int)) (n i:Int):St:=⟨slotsOf 36 [(0,.rob false xss),(2,.nl (.slice none 0 0)),(3,.int .i64 n),(9,.rob false xss),(10,.int .i64 xss.length),(11,.int .i64 i)],[],true⟩
noncomputable def c2 (xss:List (List Int)) (N m:Nat) (l:List Int) (i:Int):St:=⟨slotsOf 36 [(6,.sl 0 0 0 1 m N false false),(25,.rob false xss),(26,.int .i64 xss.length),(27,.int .i64 i)],[.b [.ints .u8 N l]],true⟩
section
variable (xss:List (List Int)) (n i:Int) (N m:Nat) (l:List Int)
theorem co_head:(execL Tryz.prog (coC true true) 60 0 3 (atoms cB) ⟨slots0 Tryz.f136.ntmps [.rob false xss],[],true⟩).bind (St.cut [0,2,3,9,10,11] 0)=some (c1 xss 0 0):=by kernel_rfl
theorem co_one:(exec Tryz.prog (coC true true) 60 0 (inner (inner (nthC 3 cB))) (c1 xss n i)).bind (fun r=>(r.2.cut [0,2,3,9,10,11] 0).map fun q=>(r.1,q))=
  some (.normal,{c1 xss (IntKind.i64.wrap (n+(xss.getD i.toNat []).length)) (IntKind.i64.wrap (i+1)) with ob:=andT (andT (andT (andT true (decide (i<xss.length))) (inB i xss.length)) (decide (i.toNat<xss.length))) (!decide (IntKind.i64.wrap (n+(xss.getD i.toNat []).length)<0))}):=by kernel_rfl
theorem co_oneE:(exec Tryz.prog (coC false true) 60 0 (inner (inner (nthC 3 cB))) (c1 xss n i)).bind (fun r=>(r.2.cut [0,2,3,9,10,11] 0).map fun q=>(r.1,q))=
  some (.exit 0,{c1 xss n i with ob:=andT true (!decide (i<xss.length))}):=by kernel_rfl
theorem co_mid:(execL Tryz.prog (coC true true) 60 0 2 ((atoms cB).drop 4) (c1 xss n i)).bind (St.cut [6,25,26,27] 1)=
  some {c2 xss n.toNat 0 (List.replicate n.toNat 0) 0 with ob:=andT true (andT true (decide (0≤n)&&decide (n≤274877906944)))}:=by kernel_rfl
theorem co_two:(exec Tryz.prog (coC true true) 60 0 (inner (inner (nthC 6 cB))) (c2 xss N m l i)).bind (fun r=>(r.2.cut [6,25,26,27] 1).map fun q=>(r.1,q))=
  some (.normal,{c2 xss N (m+(xss.getD i.toNat []).length) (spl l (0+m) (xss.getD i.toNat []) (xss.getD i.toNat []).length) (IntKind.i64.wrap (i+1)) with ob:=andT (andT (andT (andT true (decide (i<xss.length))) (inB i xss.length)) (decide (i.toNat<xss.length))) (andT (andT true (decide (m+(xss.getD i.toNat []).length≤N)))
    (decide (l.length=N)&&decide (0+m+(xss.getD i.toNat []).length≤N)&&decide ((xss.getD i.toNat []).length≤(xss.getD i.toNat []).length)))}):=by kernel_rfl
theorem co_twoE:(exec Tryz.prog (coC true false) 60 0 (inner (inner (nthC 6 cB))) (c2 xss N m l i)).bind (fun r=>(r.2.cut [6,25,26,27] 1).map fun q=>(r.1,q))=
  some (.exit 2,{c2 xss N m l i with ob:=andT true (!decide (i<xss.length))}):=by kernel_rfl
end
def tot (xss:List (List Int)) (i:Nat):Nat:=(xss.take i).flatten.length
theorem take_flat {xss:List (List Int)} {i:Nat} (h:i<xss.length):(xss.take (i+1)).flatten=(xss.take i).flatten++xss.getD i []:=by
 have e:xss.take (i+1)=xss.take i++[xss[i]]:=by simp
 have g:xss.getD i []=xss[i]:=by simp [List.getD,List.getElem?_eq_getElem h]
 rw [e,g,List.flatten_append,List.flatten_cons,List.flatten_nil,List.append_nil]
theorem tot_succ {xss:List (List Int)} {i:Nat} (h:i<xss.length):tot xss (i+1)=tot xss i+(xss.getD i []).length:=by
 unfold tot;rw [take_flat h,List.length_append]
theorem tot_le (xss:List (List Int)) (i:Nat):tot xss i≤xss.flatten.length:=by
 have:xss.flatten=(xss.take i).flatten++(xss.drop i).flatten:=by rw [←List.flatten_append,List.take_append_drop]
 unfold tot
 rw [this,List.length_append];omega
theorem tot_all (xss:List (List Int)):tot xss xss.length=xss.flatten.length:=by unfold tot;rw [List.take_length]
def fillN (xss:List (List Int)) (i:Nat):List Int:=(xss.take i).flatten++List.replicate (xss.flatten.length-tot xss i) 0
theorem fillN_len (xss:List (List Int)) (i:Nat):(fillN xss i).length=xss.flatten.length:=by
 have:=tot_le xss i
 unfold fillN
 rw [List.length_append,List.length_replicate]
 unfold tot at*;omega
theorem fillN_succ {xss:List (List Int)} {i:Nat} (h:i<xss.length):spl (fillN xss i) (0+tot xss i) (xss.getD i []) (xss.getD i []).length=fillN xss (i+1):=by
 unfold spl
 have h1:(fillN xss i).take (0+tot xss i)=(xss.take i).flatten:=by
  unfold fillN
  rw [Nat.zero_add]
  exact List.take_left' rfl
 have h2:(fillN xss i).drop (0+tot xss i+(xss.getD i []).length)=List.replicate (xss.flatten.length-tot xss (i+1)) 0:=by
  unfold fillN
  rw [List.drop_append,tot_succ h,List.drop_of_length_le (by unfold tot;omega),List.nil_append,List.drop_replicate]
  congr 1
  unfold tot;omega
 rw [h1,h2,List.take_length]
 unfold fillN
 rw [take_flat h]
theorem co_sl {xss:List (List Int)} (h1:xss.flatten.length≤274877906944) (h2:xss.length≤274877906944):FnTr Tryz.prog 136 [.rob false xss] [] (.sl 0 0 0 1 xss.flatten.length xss.flatten.length false false) [.b [.ints .u8 xss.flatten.length xss.flatten]]:=by
 have l1:Tr Tryz.prog none 0 (nthC 3 cB) (c1 xss 0 0) .normal (c1 xss xss.flatten.length xss.length):=by
  have key:=Tr.loop (P:=Tryz.prog) (ro:=none) (k:=0) 0 (c:=nthC 3 cB) (by kernel_rfl) (fun j:Nat=>c1 xss (tot xss j) j) xss.length (s':=c1 xss xss.flatten.length xss.length) (fun j hj=>?_) ?_
  ·exact key
  ·have k:=co_one xss (tot xss j) j
   have t1:=tot_le xss (j+1)
   have t2:=tot_succ hj
   rw [Int.toNat_natCast,wrap_i64 _ (by omega) (by omega),wrap_i64 _ (by omega) (by omega)] at k
   refine Tr.post (Tr.cut (coC_ok true true) 60 _ 0 (by omega) k ?_) (Ent.same ?_ rfl)
   ·simp only [andT_iff,decide_eq_true_eq,Bool.not_eq_true',decide_eq_false_iff_not,true_and]
    exact ⟨⟨⟨by omega,inB_true (by omega) (by omega)⟩,by omega⟩,by omega⟩
   ·show (c1 _ _ _).t=(c1 _ _ _).t
    rw [show ((tot xss j:Nat):Int)+((xss.getD j []).length:Nat)=((tot xss (j+1):Nat):Int) by omega,show ((j:Int)+1)=((j+1:Nat):Int) by omega]
  ·have k:=co_oneE xss (tot xss xss.length) xss.length
   rw [tot_all] at k ⊢
   exact Tr.post (Tr.cut (coC_ok false true) 60 _ 0 (by omega) k (by simp [andT])) (Ent.same rfl rfl)
 have l2:Tr Tryz.prog none 0 (nthC 6 cB) (c2 xss xss.flatten.length 0 (List.replicate xss.flatten.length 0) 0) .normal (c2 xss xss.flatten.length xss.flatten.length xss.flatten xss.length):=by
  have key:=Tr.loop (P:=Tryz.prog) (ro:=none) (k:=0) 2 (c:=nthC 6 cB) (by kernel_rfl) (fun j:Nat=>c2 xss xss.flatten.length (tot xss j) (fillN xss j) j) xss.length (s':=c2 xss xss.flatten.length xss.flatten.length xss.flatten xss.length) (fun j hj=>?_) ?_
  ·exact key
  ·have k:=co_two xss j xss.flatten.length (tot xss j) (fillN xss j)
   have t1:=tot_le xss (j+1)
   have t2:=tot_succ hj
   rw [Int.toNat_natCast,wrap_i64 _ (by omega) (by omega),fillN_succ hj, ←t2] at k
   refine Tr.post (Tr.cut (coC_ok true true) 60 _ 1 (by omega) k ?_) (Ent.same ?_ rfl)
   ·simp only [andT_iff,Bool.and_eq_true,decide_eq_true_eq,true_and]
    exact ⟨⟨⟨by omega,inB_true (by omega) (by omega)⟩,by omega⟩,by omega,⟨⟨fillN_len _ _,by omega⟩,by omega⟩⟩
   ·show (c2 _ _ _ [] _).t=(c2 _ _ _ [] _).t
    rw [show ((j:Int)+1)=((j+1:Nat):Int) by omega]
  ·have k:=co_twoE xss xss.length xss.flatten.length (tot xss xss.length) (fillN xss xss.length)
   have e:fillN xss xss.length=xss.flatten:=by unfold fillN;rw [tot_all,Nat.sub_self,List.take_length];simp
   rw [tot_all,e] at k
   rw [tot_all,e]
   exact Tr.post (Tr.cut (coC_ok true false) 60 _ 1 (by omega) k (by simp [andT])) (Ent.same rfl rfl)
 have key:FnTr Tryz.prog 136 [.rob false xss] [] (.sl 0 0 0 1 xss.flatten.length xss.flatten.length false false) [.b [.ints .u8 xss.flatten.length xss.flatten]]:=by
  refine FnTr.restM (coC_ok true true) 60 7 1 Tryz.func136 (by simp) rfl (fun s' x h=>?_) (s:=c2 xss xss.flatten.length xss.flatten.length xss.flatten xss.length) (p:=true) (by kernel_rfl) rfl rfl rfl
  refine TrL.items (coC_ok true true) 60 3 _ 0 (by simp) (co_head xss) rfl (by decide) ?_
  refine TrL.item 3 (by decide) l1 ?_
  have hm:=co_mid xss xss.flatten.length xss.length
  rw [Int.toNat_natCast] at hm
  refine TrL.items (coC_ok true true) 60 2 _ 1 (by simp) hm ?_ (by decide) ?_
  ·simp only [andT_iff,Bool.and_eq_true,decide_eq_true_eq,true_and];omega
  refine TrL.item 6 (by decide) (Tr.pre l2 (Ent.same rfl rfl)) h
 exact key
theorem co_fn {xss:List (List Int)} (h1:xss.flatten.length≤274877906944) (h2:xss.length≤274877906944):FnTr Tryz.prog 136 [.rob false xss] [] (.ro true .u8 xss.flatten) []:=(co_sl h1 h2).frozen rfl
def coTF:List SV→Option (SV×List Blk×Bool)
 | [.rob false xss]=>some (.sl 0 0 0 1 xss.flatten.length xss.flatten.length false false,[.b [.ints .u8 xss.flatten.length xss.flatten]],decide (xss.flatten.length≤274877906944)&&decide (xss.length≤274877906944))
 |_=>none
noncomputable def concatTE:Entry Tryz.prog:=.val 136 _ Tryz.func136 (by decide) rfl true 1 coTF fun vs v new e=>by
 unfold coTF at e
 split at e
 ·simp only [Option.some.injEq,Prod.mk.injEq,Bool.and_eq_true,decide_eq_true_eq] at e
  obtain ⟨rfl,rfl,h1,h2⟩:=e
  exact co_sl h1 h2
 ·cases e
def coF:List SV→Option (SV×List Blk×Bool)
 | [.rob false xss]=>some (.ro true .u8 xss.flatten,[],decide (xss.flatten.length≤274877906944)&&decide (xss.length≤274877906944))
 |_=>none
noncomputable def concatE:Entry Tryz.prog:=.val 136 _ Tryz.func136 (by decide) rfl true 0 coF fun vs v new e=>by
 unfold coF at e
 split at e
 ·simp only [Option.some.injEq,Prod.mk.injEq,Bool.and_eq_true,decide_eq_true_eq] at e
  obtain ⟨rfl,rfl,h1,h2⟩:=e
  exact co_fn h1 h2
 ·cases e
end Go.Proofs.YthlnlcijnoadcaaGreatDoor.Sh
end
section
namespace Go.Sy
open Go
variable {P:Program}
theorem FnTr.split {f:FuncId} {args:List SV} {h h1:List Blk} {v:SV} {k:IntKind} {xs:List Int} (g1:0<xs.length→FnTr P f (.ro false k xs::args) h v h1)
  (g2:xs=[]→FnTr P f (.nl (.slice none 0 0)::args) h v h1) (g3:xs=[]→∀a c,FnTr P f (.nl (.slice (some a) 0 c)::args) h v h1):FnTr P f (.ro false k xs::args) h v h1:=by
 by_cases hx:xs=[]
 ·intro B e w args' hB hl R
  obtain ⟨y,zs,h1,h2,rfl⟩:=hl
  rcases h1 with ⟨_,a,cap,rfl,ha⟩|⟨n,o,cap,c,t,fr,rfl,_⟩
  ·cases a with
   |none=>
    obtain rfl:=ha rfl
    exact g2 hx B e w _ hB ⟨.slice none 0 0,_,rfl,h2,rfl⟩ R
   |some a=>exact g3 hx a cap B e w _ hB ⟨_,_,rfl,h2,rfl⟩ R
  ·subst hx
   exact g3 rfl _ cap B e w _ hB ⟨_,_,rfl,h2,rfl⟩ R
 ·exact g1 (List.length_pos_iff.2 hx)
end Go.Sy
namespace Go.Proofs.YthlnlcijnoadcaaGreatDoor.Sh
open Go Go.Sy
theorem clone_fn {xs:List Int} (h:xs.length≤274877906944):FnTr Tryz.prog 211 [.ro false .u8 xs] [] (.sl 0 0 0 1 xs.length xs.length false true) [.b [.ints .u8 xs.length xs]]:=by
 refine FnTr.split (fun h0=>?_) (fun hx=>?_) (fun hx a c=>?_)
 ·have k:(callS Tryz.prog (mk (P:=Tryz.prog) [] []) 60 Tryz.f211 [.ro false .u8 xs] []).map (fun x=>x)=
    some (.sl 0 0 0 1 (0+xs.length) (0+xs.length) false true,[.b [.ints .u8 (0+xs.length) (List.replicate 0 0++xs)]],andT (andT true (decide (0<xs.length))) (andT true (decide (0+xs.length≤2^38)))):=by kernel_rfl
  rw [Nat.zero_add,decide_eq_true h0,decide_eq_true (show xs.length≤2^38 by omega)] at k
  obtain ⟨x,h2,h3⟩:=Option.map_eq_some_iff.1 k
  subst h3
  exact FnTr.of_callS ctr0 Tryz.func211 h2
 ·subst hx
  exact (call0 ctr0 60 Tryz.func211 (v:=.nl (.slice none 0 0)) (p:=true) (by kernel_rfl) rfl rfl).empty .u8 false true
 ·subst hx
  have k:callS Tryz.prog (mk (P:=Tryz.prog) [] []) 60 Tryz.f211 [.nl (.slice (some a) 0 c)] []=some (.sl 0 0 0 1 0 0 false true,[.b [.ints .u8 0 []]],true):=by kernel_rfl
  exact FnTr.of_callS ctr0 Tryz.func211 k
def cloneF:List SV→Option (SV×List Blk×Bool)
 | [.ro false .u8 xs]=>some (.sl 0 0 0 1 xs.length xs.length false true,[.b [.ints .u8 xs.length xs]],decide (xs.length≤274877906944))
 |_=>none
noncomputable def cloneE:Entry Tryz.prog:=.val 211 _ Tryz.func211 (by decide) rfl true 1 cloneF fun vs v new e=>by
 unfold cloneF at e
 split at e
 ·simp only [Option.some.injEq,Prod.mk.injEq,decide_eq_true_eq] at e
  obtain ⟨rfl,rfl,h⟩:=e
  exact clone_fn h
 ·cases e
def lnB (n:Int) (i:Nat):Int:=IntKind.u8.wrap (shrI .u64 (shlI .u64 (W n) 3) (8*i))
def len16 (n:Int):List Int:=[0,0,0,0,0,0,0,IntKind.u8.wrap (shrI .u64 (W n) 61),lnB n 7,lnB n 6,lnB n 5,lnB n 4,lnB n 3,lnB n 2,lnB n 1,lnB n 0]
def len8 (n:Int):List Int:=[lnB n 7,lnB n 6,lnB n 5,lnB n 4,lnB n 3,lnB n 2,lnB n 1,lnB n 0]
theorem len_fn (n:Int):FnTr Tryz.prog 251 [.int .i64 n,.int .i64 16] [] (.ro true .u8 (len16 n)) []:=
 FnTr.frozen (N:=16) (ex:=true) (wh:=true) (FnTr.of_callS ctr0 Tryz.func251 (n:=200) (by kernel_rfl)) rfl
theorem len_fn8 (n:Int):FnTr Tryz.prog 251 [.int .i64 n,.int .i64 8] [] (.ro true .u8 (len8 n)) []:=
 FnTr.frozen (N:=8) (ex:=true) (wh:=true) (FnTr.of_callS ctr0 Tryz.func251 (n:=200) (by kernel_rfl)) rfl
def lenF:List SV→Option (SV×List Blk×Bool)
 | [.int .i64 n,.int .i64 m]=>bif m==16 then some (.ro true .u8 (len16 n),[],true) else bif m==8 then some (.ro true .u8 (len8 n),[],true) else none
 |_=>none
noncomputable def lenE:Entry Tryz.prog:=.val 251 _ Tryz.func251 (by decide) rfl false 0 lenF fun vs v new e=>by
 unfold lenF at e
 split at e
 ·rename_i n m
  by_cases h1:m=16
  ·subst h1;cases e;exact len_fn n
  ·rw [beq_false_of_ne h1] at e
   by_cases h2:m=8
   ·subst h2;cases e;exact len_fn8 n
   ·rw [beq_false_of_ne h2] at e;cases e
 ·cases e
end Go.Proofs.YthlnlcijnoadcaaGreatDoor.Sh
end
section
namespace Go.Proofs.YthlnlcijnoadcaaGreatDoor.Sh
open Go Go.Sy
noncomputable def pB:Code:=bodyOf Tryz.f213
noncomputable def paC (b:Bool):Ctr:=mk (P:=Tryz.prog) [cloneE,lenE] [] fun i=>if i=21 then some b else none
theorem paC_ok (b:Bool):CtrSound Tryz.prog (paC b):=mk_sound _ InlOK.nil _ _
noncomputable def pS (m:Nat) (l:List Int) (n pc sz:Int):St:=⟨slotsOf 30 [(1,.int .i64 n),(2,.int .i64 pc),(3,.int .i64 sz),(9,.sl 0 0 0 1 m m false true)],[.b [.ints .u8 m l]],true⟩
def apO (a b:Nat):Bool:=andT (andT (andT true (decide (a=b)&&(decide (b≤b)&&true))) (decide (a=b))) (decide (b+1≤2^38))
section
variable (m:Nat) (l xs:List Int) (n pc sz:Int)
theorem pa_head:(execL Tryz.prog (paC true) 60 0 2 (atoms pB) ⟨slots0 Tryz.f213.ntmps [.ro false .u8 xs,.int .i64 n,.int .i64 pc,.int .i64 sz],[],true⟩).bind (St.cut [1,2,3,9] 1)=
  some {pS (xs.length+1) (xs++[128]) n pc sz with ob:=andT (andT true (andT true (decide (xs.length≤274877906944)))) (apO xs.length xs.length)}:=by kernel_rfl
theorem pa_one:(exec Tryz.prog (paC true) 60 0 (inner (inner (nthC 2 pB))) (pS m l n pc sz)).bind (fun r=>(r.2.cut [1,2,3,9] 1).map fun q=>(r.1,q))=
  some (.normal,{pS (m+1) (l++[0]) n pc sz with ob:=andT (andT (andT true (pc != 0)) ((m:Int).tmod pc != IntKind.i64.wrap (pc-sz))) (apO l.length m)}):=by kernel_rfl
theorem pa_end:(exec Tryz.prog (paC false) 60 0 (inner (inner (nthC 2 pB))) (pS m l n pc sz)).bind (fun r=>(r.2.cut [1,2,3,9] 1).map fun q=>(r.1,q))=
  some (.exit 0,{pS m l n pc sz with ob:=andT (andT true (pc != 0)) (!((m:Int).tmod pc != IntKind.i64.wrap (pc-sz)))}):=by kernel_rfl
end
theorem apO_true {a:Nat} (h:a<274877906944):apO a a=true:=by
 unfold apO
 rw [decide_eq_true rfl,decide_eq_true (Nat.le_refl a),decide_eq_true (show a+1≤2^38 by omega)]
 rfl
def padK (len pc q:Nat):Nat:=(q+pc-(len+1)%pc)%pc
theorem padK_mod {len pc q:Nat} (hq:q<pc):(len+1+padK len pc q)%pc=q∧∀j,j<padK len pc q→(len+1+j)%pc≠q:=by
 have hm:(len+1)%pc<pc:=Nat.mod_lt _ (by omega)
 unfold padK
 generalize hr:(len+1)%pc=r at*
 have key:∀j,(len+1+j)%pc=(r+j)%pc:=fun j=>by rw [←hr,Nat.mod_add_mod]
 by_cases h:r≤q
 ·have e:(q+pc-r)%pc=q-r:=by
   rw [show q+pc-r=(q-r)+pc by omega,Nat.add_mod_right,Nat.mod_eq_of_lt (by omega)]
  rw [e]
  refine ⟨by rw [key,show r+(q-r)=q by omega,Nat.mod_eq_of_lt hq],fun j hj=>?_⟩
  rw [key,Nat.mod_eq_of_lt (by omega)];omega
 ·have e:(q+pc-r)%pc=q+pc-r:=Nat.mod_eq_of_lt (by omega)
  rw [e]
  refine ⟨by rw [key,show r+(q+pc-r)=q+pc by omega,Nat.add_mod_right,Nat.mod_eq_of_lt hq],fun j hj=>?_⟩
  rw [key]
  by_cases h2:r+j<pc
  ·rw [Nat.mod_eq_of_lt h2];omega
  ·rw [show r+j=(r+j-pc)+pc by omega,Nat.add_mod_right,Nat.mod_eq_of_lt (by omega)];omega
def padL (xs:List Int) (pc q:Nat):List Int:=xs++[128]++List.replicate (padK xs.length pc q) 0
theorem padL_len (xs:List Int) (pc q:Nat):(padL xs pc q).length=xs.length+1+padK xs.length pc q:=by simp [padL];omega
theorem pa_loop {xs:List Int} (n:Int) {pc sz q:Nat} (hq:q+sz=pc) (hsz:0<sz) (hpc:pc<1000) (hx:xs.length<274877900000):
  Tr Tryz.prog none 0 (nthC 2 pB) (pS (xs.length+1) (xs++[128]) n pc sz) .normal (pS (xs.length+1+padK xs.length pc q) (padL xs pc q) n pc sz):=by
 obtain ⟨k1,k2⟩:=padK_mod (len:=xs.length) (show q<pc by omega)
 have hK:padK xs.length pc q<pc:=Nat.mod_lt _ (by omega)
 have hne:(((pc:Nat):Int) != 0)=true:=bne_iff_ne.2 (by omega)
 have hw:IntKind.i64.wrap ((pc:Int)-(sz:Int))=((q:Nat):Int):=by rw [wrap_i64 _ (by omega) (by omega)];omega
 have hm:∀j:Nat,((xs.length+1+j:Nat):Int).tmod (pc:Int)=(((xs.length+1+j)%pc:Nat):Int):=fun j=>by
  rw [Int.tmod_eq_emod_of_nonneg (by omega),Int.natCast_emod]
 have key:=Tr.loop (P:=Tryz.prog) (ro:=none) (k:=0) 0 (c:=nthC 2 pB) (by kernel_rfl) (fun j:Nat=>pS (xs.length+1+j) (xs++[128]++List.replicate j 0) n pc sz) (padK xs.length pc q) (s':=pS (xs.length+1+padK xs.length pc q) (padL xs pc q) n pc sz) (fun j hj=>?_) ?_
 ·refine Tr.pre key (Ent.same rfl ?_)
  show [_]=[_]
  simp
 ·have k:=pa_one (xs.length+1+j) (xs++[128]++List.replicate j 0) n pc sz
  have hl:(xs++[128]++List.replicate j 0).length=xs.length+1+j:=by simp;omega
  rw [hne,hm,hw,hl,apO_true (by omega),bne_iff_ne.2 (show (((xs.length+1+j)%pc:Nat):Int)≠((q:Nat):Int) from fun h=>k2 j hj (by omega))] at k
  refine Tr.post (Tr.cut (paC_ok true) 60 _ 1 (by omega) k rfl) (Ent.same rfl ?_)
  show [_]=[_]
  rw [List.replicate_succ', ←List.append_assoc];rfl
 ·have k:=pa_end (xs.length+1+padK xs.length pc q) (padL xs pc q) n pc sz
  rw [hne,hm,hw,k1] at k
  exact Tr.post (Tr.cut (paC_ok false) 60 _ 1 (by omega) k (by simp [andT])) (Ent.same rfl rfl)
theorem padded_fn {xs:List Int} (n:Int) (hx:xs.length<274877900000):FnTr Tryz.prog 213 [.ro false .u8 xs,.int .i64 n,.int .i64 128,.int .i64 16] [] (.ro true .u8 (padL xs 128 112++len16 n)) []:=by
 have hK:padK xs.length 128 112<128:=Nat.mod_lt _ (by omega)
 have hl:=padL_len xs 128 112
 refine FnTr.frozen (N:=xs.length+1+padK xs.length 128 112+16) (ex:=false) (wh:=true) ?_ (by rw [List.length_append,hl];rfl)
 refine FnTr.restM (paC_ok true) 60 3 1 Tryz.func213 (by simp) rfl (fun s' x h=>?_) (s:=pS (xs.length+1+padK xs.length 128 112) (padL xs 128 112) n 128 16)
  (p:=andT true (andT (andT (andT true (decide ((padL xs 128 112).length=xs.length+1+padK xs.length 128 112)&&(decide (xs.length+1+padK xs.length 128 112≤xs.length+1+padK xs.length 128 112)&&true))) (decide ((padL xs 128 112).length=xs.length+1+padK xs.length 128 112))) (decide (xs.length+1+padK xs.length 128 112+16≤2^38)))) (by kernel_rfl) (by rw [hl];simp only [andT_iff,decide_eq_true_eq,decide_true,Bool.and_self,true_and,Nat.le_refl];omega) rfl rfl
 refine TrL.items (paC_ok true) 60 2 _ 1 (by simp) (pa_head xs n 128 16) (by rw [apO_true (by omega),decide_eq_true (by omega)];rfl) (by decide) ?_
 exact TrL.item 2 (by decide) (Tr.pre (pa_loop n (pc:=128) (sz:=16) (q:=112) rfl (by decide) (by decide) hx) (Ent.same rfl rfl)) h
theorem padded_fn8 {xs:List Int} (n:Int) (hx:xs.length<274877900000):FnTr Tryz.prog 213 [.ro false .u8 xs,.int .i64 n,.int .i64 64,.int .i64 8] [] (.ro true .u8 (padL xs 64 56++len8 n)) []:=by
 have hK:padK xs.length 64 56<64:=Nat.mod_lt _ (by omega)
 have hl:=padL_len xs 64 56
 refine FnTr.frozen (N:=xs.length+1+padK xs.length 64 56+8) (ex:=false) (wh:=true) ?_ (by rw [List.length_append,hl];rfl)
 refine FnTr.restM (paC_ok true) 60 3 1 Tryz.func213 (by simp) rfl (fun s' x h=>?_) (s:=pS (xs.length+1+padK xs.length 64 56) (padL xs 64 56) n 64 8)
  (p:=andT true (andT (andT (andT true (decide ((padL xs 64 56).length=xs.length+1+padK xs.length 64 56)&&(decide (xs.length+1+padK xs.length 64 56≤xs.length+1+padK xs.length 64 56)&&true))) (decide ((padL xs 64 56).length=xs.length+1+padK xs.length 64 56))) (decide (xs.length+1+padK xs.length 64 56+8≤2^38)))) (by kernel_rfl) (by rw [hl];simp only [andT_iff,decide_eq_true_eq,decide_true,Bool.and_self,true_and,Nat.le_refl];omega) rfl rfl
 refine TrL.items (paC_ok true) 60 2 _ 1 (by simp) (pa_head xs n 64 8) (by rw [apO_true (by omega),decide_eq_true (by omega)];rfl) (by decide) ?_
 exact TrL.item 2 (by decide) (Tr.pre (pa_loop n (pc:=64) (sz:=8) (q:=56) rfl (by decide) (by decide) hx) (Ent.same rfl rfl)) h
def padF:List SV→Option (SV×List Blk×Bool)
 | [.ro false .u8 xs,.int .i64 n,.int .i64 pc,.int .i64 sz]=>bif pc==128&&sz==16 then some (.ro true .u8 (padL xs 128 112++len16 n),[],decide (xs.length<274877900000)) else bif pc==64&&sz==8 then some (.ro true .u8 (padL xs 64 56++len8 n),[],decide (xs.length<274877900000)) else none
 |_=>none
noncomputable def paddedE:Entry Tryz.prog:=.val 213 _ Tryz.func213 (by decide) rfl true 0 padF fun vs v new e=>by
 unfold padF at e
 split at e
 ·rename_i xs n pc sz
  by_cases h1:(pc==128&&sz==16)=true
  ·rw [h1] at e
   simp only [Bool.and_eq_true,beq_iff_eq] at h1
   obtain ⟨rfl,rfl⟩:=h1
   simp only [cond_true,Option.some.injEq,Prod.mk.injEq,decide_eq_true_eq] at e
   obtain ⟨rfl,rfl,h⟩:=e
   exact padded_fn n h
  ·rw [Bool.not_eq_true] at h1
   rw [h1] at e
   by_cases h2:(pc==64&&sz==8)=true
   ·rw [h2] at e
    simp only [Bool.and_eq_true,beq_iff_eq] at h2
    obtain ⟨rfl,rfl⟩:=h2
    simp only [cond_true,cond_false,Option.some.injEq,Prod.mk.injEq,decide_eq_true_eq] at e
    obtain ⟨rfl,rfl,h⟩:=e
    exact padded_fn8 n h
   ·rw [Bool.not_eq_true] at h2
    rw [h2] at e
    cases e
 ·cases e
end Go.Proofs.YthlnlcijnoadcaaGreatDoor.Sh
end
