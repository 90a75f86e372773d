/- This file holds the texts MkA, MkB, a section each. No conditions beyond those in the theorems. -/
import Derived.Test.YthlnlcijnoadcaaGreatDoorFWiD
import Derived.Test.YthlnlcijnoadcaaGreatDoorFTtA
import Derived.Test.YthlnlcijnoadcaaGreatDoorFS2F
set_option linter.all false
set_option maxRecDepth 100000
section
namespace Go.Sy
open Go
section
variable {P:Program} {ro:Option Nat} {k:Nat} {e:Env} {B:Base} {h:List Blk} {w:World}
theorem Ent.shrinkI {t:List (Option SV)} {o o':Bool} {b N n:Nat} {K:IntKind} {l:List Int} (hb:h[b]? =some (.b [.ints K N l])) (hn:n≤N):Ent k ⟨t,h,o⟩ ⟨t,h.set b (.b [.ints K n (l.take n)]),o'⟩:=fun B e w t' hB hl R=>by
 refine ⟨e,rfl,hl,R.setW hb (fun p o _ _ q=>?_) (fun q=>by simp only [psize,psz] at q ⊢;omega)⟩
 obtain ⟨c,t,rfl,g3,g4,g5⟩:=q
 refine ⟨c,t,rfl,g3,by simp only [psize,psz] at g4 ⊢;omega,?_⟩
 obtain ⟨zs,z1,z2⟩:=g5
 rw [PR] at z1;subst z1
 refine ⟨[],rfl,?_⟩
 simp only [psize,psz,Nat.add_zero,List.append_nil] at z2 ⊢
 have:=congrArg (List.take n) z2
 rw [List.take_take,Nat.min_eq_left hn] at this
 rw [this,lst_take hn,intsV_take]
theorem OX.clearI {ops:Array Oper} {i:Nat} {dst:Option Tmp} {s:St} {c:Call} {ty el:TypeId} {x:Operand} {b m len cap:Nat} {ex wh:Bool} {xs:List Int} (hi:(ops[i]?).map (fun o=>(o.dst,o.op))=some (dst,.call c)) (hw:(ops[i]?).bind (wantS ops s.t)=some true)
  (hc:c.callee= .builtin .clear∧c.argTypes= #[ty]∧c.args= #[x]) (hu:P.underlying ty=some (.slice el)) (hz:zeroOf P el=some (.int .i64 0)) (hx:ev s.t x=some (.sl b 0 m 1 len cap ex wh)) (hb:s.h[b]? =some (.b [.ints .i64 m xs])) (hl:xs.length=m):
  OX P ro k ops [i] s (fun _ _ _=>True) ⟨putT s.t dst (.tup []),s.h,s.ob⟩ (fun _ _ _=>True):=by
 obtain ⟨o,hj,hw⟩:=Option.bind_eq_some_iff.1 hw
 rw [hj] at hi
 simp only [Option.map_some,Option.some.injEq,Prod.mk.injEq] at hi
 obtain ⟨rfl,ho⟩:=hi
 obtain ⟨hc1,hc2,hc3⟩:=hc
 refine OX.op hj (by rw [ho];simp) hw fun B e w t' d hl' R _=>?_
 have e1:=ev_sound (d:=d) hl' hx
 have hrun:∀(v:Value) (w':World),Act.eval ⟨⟨t'⟩,d⟩ x=v→(Builtin.clear_ #[ty] o.type #[v]).run P w= .ok (.tuple #[]) w'→(execOp (Act.eval ⟨⟨t'⟩,d⟩) o).run P w= .ok (.value (.tuple #[])) w':=fun v w' hv hr=>by
  have ha:(#[v]:Array Value)=c.args.map (Act.eval ⟨⟨t'⟩,d⟩):=by rw [hc3, ←hv];simp
  rw [op_builtin hc1 ha ho,hc2]
  show ((do pure (.value (←Builtin.clear_ #[ty] o.type #[v])):Sem Next)).run P w=_
  simp [hr]
 have zero:∀(a:Option Addr) (cp:Nat),Act.eval ⟨⟨t'⟩,d⟩ x= .slice a 0 cp→∃v' w',(execOp (Act.eval ⟨⟨t'⟩,d⟩) o).run P w= .ok (.value v') w'∧VR e (.tup []) v'∧Rel B e s.h w'∧True:=fun a cp hv=>by
  refine ⟨.tuple #[],w,hrun _ _ hv ?_,⟨[],rfl,rfl⟩,R,trivial⟩
  cases a<;>simp [Builtin.clear_,run_underlying hu]
 rcases e1 with ⟨h0,_,a,hv⟩|⟨p,cap',a,g1,hv,g2,g3,_,g5,g6⟩
 ·subst h0;exact zero _ _ hv
 ·by_cases h0:len=0
  ·subst h0;exact zero _ _ hv
  ·have hne:cap'≠0:=by omega
   have ha:=g2 hne
   have hf:=g6 hne
   rcases R.blk b _ hb with ⟨_,q2⟩|⟨p',o',q1,q2,cc,tt,rfl,q3,q4,q5⟩
   ·rw [g1] at q2;cases q2
   rw [g1] at q1;cases q1
   simp only [psize,psz] at q4
   have hst:=run_storeCells_at P p.n a tt (List.replicate len (Value.int .i64 0)) 0 cc w q2 (by simp;omega) (fun v hv=>by rw [List.eq_of_mem_replicate hv];rfl)
   have hzc:(Builtin.zeroCells (Value.int .i64 0).cells len).toList=List.replicate len (Value.int .i64 0):=by
    show (Builtin.zeroCells #[Value.int .i64 0] len).toList=_
    simp [Builtin.zeroCells]
    apply List.ext_getElem
    ·simp
    ·intro i h1 h2;simp [Nat.mod_one]
   refine ⟨.tuple #[],w.setRow p.n (cc.toList.take (a+0)++List.replicate len (Value.int .i64 0)++cc.toList.drop (a+0+(List.replicate len (Value.int .i64 0)).length)).toArray,hrun _ _ hv ?_,⟨[],rfl,rfl⟩,?_,trivial⟩
   ·obtain ⟨len',rfl⟩:∃q,len=q+1:=⟨len-1,by omega⟩
    simp [Builtin.clear_,run_underlying hu,zeroOf_run hz w,hzc,hst]
   ·have key:=R.setBlock (ps':=[.ints .i64 m xs]) (c':=(cc.toList.take (a+0)++List.replicate len (Value.int .i64 0)++cc.toList.drop (a+0+(List.replicate len (Value.int .i64 0)).length)).toArray) g1 q2 (by simp;omega) (fun j hj=>?_) (by simp only [psize,psz];omega) ?_
    ·rwa [show s.h.set b (.b [.ints .i64 m xs])=s.h from by
      apply List.ext_getElem?
      intro j
      by_cases hj:b=j
      ·subst hj;rw [List.getElem?_set_self (List.getElem?_eq_some_iff.1 hb).1,hb]
      ·rw [List.getElem?_set_ne hj]] at key
    ·rw [List.getElem?_toArray,Nat.add_zero]
     rcases Nat.lt_or_ge j a with h|h
     ·rw [List.append_assoc,List.getElem?_append_left (by simp;omega),List.getElem?_take,if_pos h];simp
     ·rw [List.getElem?_append_right (by simp;omega),List.getElem?_drop]
      have:a+(List.replicate len (Value.int .i64 0)).length+(j-(List.take a cc.toList++List.replicate len (Value.int .i64 0)).length)=j:=by simp;omega
      rw [this];simp
    ·simp only [psize,psz] at q5 ⊢
     rw [show ((cc.toList.take (a+0)++List.replicate len (Value.int .i64 0)++cc.toList.drop (a+0+(List.replicate len (Value.int .i64 0)).length)).drop p.base).take (m+0)=(cc.toList.drop p.base).take (m+0) from ?_]
     ·exact q5
     ·apply List.ext_getElem?
      intro j
      rw [List.getElem?_take,List.getElem?_take]
      by_cases hj:j<m+0
      ·rw [if_pos hj,if_pos hj,List.getElem?_drop,List.getElem?_drop,List.append_assoc,List.getElem?_append_left (by simp;omega),List.getElem?_take,if_pos (by omega)]
      ·rw [if_neg hj,if_neg hj]
def clearAt (o:Oper):Option (Option Tmp×Callee×Array TypeId×Array Operand):=match o.op with
 | .call c=>some (o.dst,c.callee,c.argTypes,c.args)
 |_=>none
theorem OX.clear {ops:Array Oper} {i:Nat} {dst:Option Tmp} {s:St} {ty el:TypeId} {x:Operand} {b m len cap:Nat} {ex wh:Bool} {xs:List Int} (hi:(ops[i]?).bind clearAt=some (dst,.builtin .clear,#[ty],#[x])) (hw:(ops[i]?).bind (wantS ops s.t)=some true)
  (hu:P.underlying ty=some (.slice el)) (hz:zeroOf P el=some (.int .i64 0)) (hx:ev s.t x=some (.sl b 0 m 1 len cap ex wh)) (hb:s.h[b]? =some (.b [.ints .i64 m xs])) (hl:xs.length=m):
  OX P ro k ops [i] s (fun _ _ _=>True) ⟨putT s.t dst (.tup []),s.h,s.ob⟩ (fun _ _ _=>True):=by
 obtain ⟨o,h1,h2⟩:=Option.bind_eq_some_iff.1 hi
 unfold clearAt at h2
 split at h2
 ·rename_i c hc
  simp only [Option.some.injEq,Prod.mk.injEq] at h2
  obtain ⟨rfl,h3⟩:=h2
  exact OX.clearI (c:=c) (by rw [h1,Option.map_some,hc]) hw h3 hu hz hx hb hl
 ·cases h2
end
end Go.Sy
namespace Go.Proofs.YthlnlcijnoadcaaGreatDoor.Mk
open Go Go.Sy Tr Wi
theorem cloneT_fn {xs:List Int} (h:xs.length≤274877906944):FnTr Tryz.prog 120 [.ro false .i64 xs] [] (.sl 0 0 0 1 xs.length xs.length false true) [.b [.ints .i64 xs.length xs]]:=by
 refine FnTr.splitI (fun h0=>?_) (fun hx=>?_) (fun hx a c=>?_)
 ·have k:=cI_1 xs
  rw [Nat.zero_add,decide_eq_true h0,decide_eq_true (show xs.length≤2^38 by omega)] at k
  exact FnTr.of_callS noC_ok Tryz.func120 k
 ·subst hx
  exact FnTr.nilBlk (h1:=[]) (FnTr.of_callS noC_ok Tryz.func120 (cI_3 ())) .i64 false true
 ·subst hx
  exact FnTr.of_callS noC_ok Tryz.func120 (cI_2 a c)
noncomputable def cloneTE:Entry Tryz.prog:=.val 120 _ Tryz.func120 (by decide) rfl true 1 (fun vs=>match vs with
 | [.ro false .i64 xs]=>some (.sl 0 0 0 1 xs.length xs.length false true,[.b [.ints .i64 xs.length xs]],decide (xs.length≤274877906944))
 |_=>none) fun vs v new e=>by
 split at e
 ·simp only [Option.some.injEq,Prod.mk.injEq,decide_eq_true_eq] at e
  obtain ⟨rfl,rfl,h⟩:=e
  exact cloneT_fn h
 ·cases e
noncomputable def dlInl:List (FuncId×Func):=[(121,Tryz.f121)]
theorem dlInl_ok:InlOK Tryz.prog dlInl:=InlOK.cons Tryz.func121 (by decide) InlOK.nil
noncomputable def ixC (l:List (Nat×Bool)):Ctr:=mk (P:=Tryz.prog) [containsE] dlInl (uT l)
theorem ixC_ok (l:List (Nat×Bool)):CtrSound Tryz.prog (ixC l):=mk_sound _ dlInl_ok _ _
noncomputable def ixB:Code:=bodyOf Tryz.f160
abbrev fnD:SV:=.fn (.func 121) [] [.ptr 1 0 0]
abbrev ixH (n:Nat) (xs wo:List Int):List Blk:=[.b [.ints .i64 n xs],.b [.ro false .i64 wo]]
noncomputable def ixS (n:Nat) (xs wo:List Int) (i:Int):St:=⟨slotsOf 19 [(0,.sl 0 0 0 1 n n false true),(1,fnD),(7,.int .i64 n),(8,.int .i64 i)],ixH n xs wo,true⟩
noncomputable def ixF (n:Nat) (xs wo:List Int) (i:Int):St:=⟨slotsOf 19 [(4,.int .i64 i)],ixH n xs wo,true⟩
theorem ix_head (n:Nat) (xs wo:List Int):resX (cutR [0,1,7,8] 2 ((execL Tryz.prog (ixC []) 60 2 2 (atoms ixB) ⟨slots0 Tryz.f160.ntmps [.sl 0 0 0 1 n n false true,fnD],ixH n xs wo,true⟩).map fun s=>(Exit.normal,s)))=some (.normal,(ixS n xs wo 0).t,ixH n xs wo):=by kernel_rfl
theorem ix_head' (n:Nat) (xs wo:List Int):obX (cutR [0,1,7,8] 2 ((execL Tryz.prog (ixC []) 60 2 2 (atoms ixB) ⟨slots0 Tryz.f160.ntmps [.sl 0 0 0 1 n n false true,fnD],ixH n xs wo,true⟩).map fun s=>(Exit.normal,s)))=(true):=by kernel_rfl
theorem ix_go (n:Nat) (xs wo:List Int) (i:Int):resX (cutR [0,1,7,8] 2 (exec Tryz.prog (ixC [(9,true),(16,false)]) 60 2 (inner (inner (nthC 2 ixB))) (ixS n xs wo i)))=some (.normal,(ixS n xs wo (IntKind.i64.wrap (i+1))).t,ixH n xs wo):=by kernel_rfl
theorem ix_go' (n:Nat) (xs wo:List Int) (i:Int):obX (cutR [0,1,7,8] 2 (exec Tryz.prog (ixC [(9,true),(16,false)]) 60 2 (inner (inner (nthC 2 ixB))) (ixS n xs wo i)))=(andT (andT (andT (andT (andT true (decide (i<((n:Nat):Int)))) (inB i n)) (decide (0+i.toNat<n))) (andT true (andT true (decide (wo.length≤274877906944))))) !hasB wo (xs.getD (0+i.toNat) 0)):=by kernel_rfl
theorem ix_out (n:Nat) (xs wo:List Int) (i:Int):resX (cutR [4] 2 (exec Tryz.prog (ixC [(9,true),(16,true)]) 60 2 (inner (inner (nthC 2 ixB))) (ixS n xs wo i)))=some (.ret,(ixF n xs wo i).t,ixH n xs wo):=by kernel_rfl
theorem ix_out' (n:Nat) (xs wo:List Int) (i:Int):obX (cutR [4] 2 (exec Tryz.prog (ixC [(9,true),(16,true)]) 60 2 (inner (inner (nthC 2 ixB))) (ixS n xs wo i)))=(andT (andT (andT (andT (andT true (decide (i<((n:Nat):Int)))) (inB i n)) (decide (0+i.toNat<n))) (andT true (andT true (decide (wo.length≤274877906944))))) (hasB wo (xs.getD (0+i.toNat) 0))):=by kernel_rfl
theorem ix_end (n:Nat) (xs wo:List Int) (i:Int):resX (cutR [] 2 (exec Tryz.prog (ixC [(9,false)]) 60 2 (inner (inner (nthC 2 ixB))) (ixS n xs wo i)))=some (.exit 0,slotsOf 19 [],ixH n xs wo):=by kernel_rfl
theorem ix_end' (n:Nat) (xs wo:List Int) (i:Int):obX (cutR [] 2 (exec Tryz.prog (ixC [(9,false)]) 60 2 (inner (inner (nthC 2 ixB))) (ixS n xs wo i)))=(andT true !decide (i<((n:Nat):Int))):=by kernel_rfl
section
variable {n:Nat} {xs wo:List Int}
theorem index_fn (hl:xs.length=n) (hn:n≤274877906944) (hw:wo.length≤274877906944):FnTr Tryz.prog 160 [.sl 0 0 0 1 n n false true,fnD] (ixH n xs wo) (.int .i64 (scanV (fun i=>!hasB wo (xs.getD i 0)) n (fun i=>(i:Int)) (-1))) (ixH n xs wo):=by
 have hw':=decide_eq_true hw
 have key:=FnTr.scan (P:=Tryz.prog) (args:=[.sl 0 0 0 1 n n false true,fnD]) (h:=ixH n xs wo) (h':=ixH n xs wo) Tryz.func160 rfl 2 0 (fun j:Nat=>ixS n xs wo ((j:Nat):Int)) (fun i=>!hasB wo (xs.getD i 0)) n
  (fun x s' g=>TrL.itemsX (ixC_ok []) 60 2 _ 2 (Nat.le_refl 2) (s1:=ixS n xs wo ((0:Nat):Int)) _ (ix_head n xs wo) (ix_head' n xs wo) rfl (by decide) rfl g) (by decide) (by kernel_rfl)
  (fun i hi hb _=>?_) (fun i=>ixF n xs wo ((i:Nat):Int)) (fun i=>[.int .i64 ((i:Nat):Int)]) (fun i hi hb _=>⟨?_,rfl,rfl⟩) (sE:=⟨slotsOf 19 [],ixH n xs wo,true⟩) (sE':=ixF n xs wo (-1)) (vE:=[.int .i64 (-1)]) (xE:=.ret) (fun _=>?_) (fun _=>⟨?_,.inl rfl,rfl,rfl⟩)
 ·rw [oneOf_scan (g:=SV.int .i64) (vF:=fun i:Nat=>(i:Int)) (vE:=-1)] at key
  exact key
 ·have e:=ix_go n xs wo i
  rw [wrapS (by omega)] at e
  exact Tr.cutX (ixC_ok [(9,true),(16,false)]) 60 _ 2 (Nat.le_refl 2) (s':=ixS n xs wo ((i+1:Nat):Int)) _ e (ix_go' n xs wo i) (by rw [ltN hi,inBN hi,Int.toNat_natCast,Nat.zero_add,decide_eq_true hi,hw',hb];rfl)
 ·have hb':hasB wo (xs.getD i 0)=true:=by simpa using hb
  exact Tr.cutX (ixC_ok [(9,true),(16,true)]) 60 _ 2 (Nat.le_refl 2) (s':=ixF n xs wo ((i:Nat):Int)) _ (ix_out n xs wo i) (ix_out' n xs wo i) (by rw [ltN hi,inBN hi,Int.toNat_natCast,Nat.zero_add,decide_eq_true hi,hw',hb'];rfl)
 ·exact Tr.cutX (ixC_ok [(9,false)]) 60 _ 2 (Nat.le_refl 2) (s':=⟨slotsOf 19 [],ixH n xs wo,true⟩) _ (ix_end n xs wo n) (ix_end' n xs wo n) (by rw [nltN (Nat.le_refl _)];rfl)
 ·exact TrL.rest (ixC_ok []) 60 (by kernel_rfl) rfl
end
def pickD:List SV→List Blk→List Nat
 | [.sl b _ _ _ _ _ _ _,.fn _ _ [.ptr c _ _]],_=>[b,c]
 |_,_=>[]
noncomputable def indexDE:Entry Tryz.prog:=.mut 160 _ Tryz.func160 (by decide) rfl pickD 0 (fun us h0=>match us,h0 with
 | [.sl 0 0 0 1 n n' false true,.fn (.func 121) [] [.ptr 1 0 0]],[.b [.ints .i64 n2 xs],.b [.ro false .i64 wo]]=>some (.int .i64 (scanV (fun i=>!hasB wo (xs.getD i 0)) n (fun i=>(i:Int)) (-1)),ixH n xs wo,decide (n=n')&&decide (n=n2)&&decide (xs.length=n)&&decide (n≤274877906944)&&decide (wo.length≤274877906944))
 |_,_=>none) fun us h0 v h1 e=>by
 split at e
 ·simp only [Option.some.injEq,Prod.mk.injEq,Bool.and_eq_true,decide_eq_true_eq] at e
  obtain ⟨rfl,rfl,⟨⟨⟨rfl,rfl⟩,h3⟩,h4⟩,h5⟩:=e
  exact index_fn h3 h4 h5
 ·cases e
noncomputable def dlC (l:List (Nat×Bool)):Ctr:=mk (P:=Tryz.prog) [containsE,indexDE] dlInl (uT l)
theorem dlC_ok (l:List (Nat×Bool)):CtrSound Tryz.prog (dlC l):=mk_sound _ dlInl_ok _ _
noncomputable def dlB:Code:=bodyOf Tryz.f110
abbrev ixV (n:Nat) (xs wo:List Int):Int:=scanV (fun i=>!hasB wo (xs.getD i 0)) n (fun i=>(i:Int)) (-1)
noncomputable def dlS (n:Nat) (ys wo:List Int) (i j:Int):St:=⟨slotsOf 42 [(0,.sl 0 0 0 1 n n false true),(1,fnD),(5,.int .i64 i),(6,.int .i64 j)],ixH n ys wo,true⟩
theorem dl_h (n:Nat) (xs wo:List Int):resX (cutR [0,1,5,6] 2 ((execL Tryz.prog (dlC [(12,false)]) 60 2 5 (atoms dlB) ⟨slots0 Tryz.f110.ntmps [.sl 0 0 0 1 n n false true,fnD],ixH n xs wo,true⟩).map fun s=>(Exit.normal,s)))=some (.normal,(dlS n xs wo (ixV n xs wo) (IntKind.i64.wrap (ixV n xs wo+1))).t,ixH n xs wo):=by kernel_rfl
theorem dl_h' (n:Nat) (xs wo:List Int):obX (cutR [0,1,5,6] 2 ((execL Tryz.prog (dlC [(12,false)]) 60 2 5 (atoms dlB) ⟨slots0 Tryz.f110.ntmps [.sl 0 0 0 1 n n false true,fnD],ixH n xs wo,true⟩).map fun s=>(Exit.normal,s)))=(andT (andT true (andT true (decide (n=n)&&decide (n=n)&&decide (xs.length=n)&&decide (n≤274877906944)&&decide (wo.length≤274877906944)))) !scanV (fun i=>!hasB wo (xs.getD i 0)) n (fun i=>((i:Nat):Int)) (-1)==-1):=by kernel_rfl
theorem dl_n (n:Nat) (xs wo:List Int):resX (cutR [4] 2 (execA Tryz.prog (dlC [(12,true)]) 60 2 (atoms dlB) ⟨slots0 Tryz.f110.ntmps [.sl 0 0 0 1 n n false true,fnD],ixH n xs wo,true⟩))=some (.ret,slotsOf 42 [(4,.sl 0 0 0 1 n n false true)],ixH n xs wo):=by kernel_rfl
theorem dl_n' (n:Nat) (xs wo:List Int):obX (cutR [4] 2 (execA Tryz.prog (dlC [(12,true)]) 60 2 (atoms dlB) ⟨slots0 Tryz.f110.ntmps [.sl 0 0 0 1 n n false true,fnD],ixH n xs wo,true⟩))=(andT (andT true (andT true (decide (n=n)&&decide (n=n)&&decide (xs.length=n)&&decide (n≤274877906944)&&decide (wo.length≤274877906944)))) (scanV (fun i=>!hasB wo (xs.getD i 0)) n (fun i=>((i:Nat):Int)) (-1)==-1)):=by kernel_rfl
theorem dl_go (n:Nat) (ys wo:List Int) (i j:Int):resX (cutR [0,1,5,6] 2 (exec Tryz.prog (dlC [(19,true),(28,false)]) 60 2 (inner (inner (nthC 5 dlB))) (dlS n ys wo i j)))=some (.normal,(dlS n ys wo (IntKind.i64.wrap (i+1)) (IntKind.i64.wrap (j+1))).t,ixH n (ys.set (0+i.toNat) (ys.getD (0+j.toNat) 0)) wo):=by kernel_rfl
theorem dl_go' (n:Nat) (ys wo:List Int) (i j:Int):obX (cutR [0,1,5,6] 2 (exec Tryz.prog (dlC [(19,true),(28,false)]) 60 2 (inner (inner (nthC 5 dlB))) (dlS n ys wo i j)))=(andT (andT (andT (andT (andT (andT (andT true (decide (j<((n:Nat):Int)))) (inB j n)) (decide (0+j.toNat<n))) (andT true (andT true (decide (wo.length≤274877906944))))) !hasB wo (ys.getD (0+j.toNat) 0)) (inB i n)) (decide (0+i.toNat<n)&&decide (ys.length=n))):=by kernel_rfl
theorem dl_sk (n:Nat) (ys wo:List Int) (i j:Int):resX (cutR [0,1,5,6] 2 (exec Tryz.prog (dlC [(19,true),(28,true)]) 60 2 (inner (inner (nthC 5 dlB))) (dlS n ys wo i j)))=some (.normal,(dlS n ys wo i (IntKind.i64.wrap (j+1))).t,ixH n ys wo):=by kernel_rfl
theorem dl_sk' (n:Nat) (ys wo:List Int) (i j:Int):obX (cutR [0,1,5,6] 2 (exec Tryz.prog (dlC [(19,true),(28,true)]) 60 2 (inner (inner (nthC 5 dlB))) (dlS n ys wo i j)))=(andT (andT (andT (andT (andT true (decide (j<((n:Nat):Int)))) (inB j n)) (decide (0+j.toNat<n))) (andT true (andT true (decide (wo.length≤274877906944))))) (hasB wo (ys.getD (0+j.toNat) 0))):=by kernel_rfl
theorem dl_e (n:Nat) (ys wo:List Int) (i j:Int):resX (cutR [0,5] 2 (exec Tryz.prog (dlC [(19,false)]) 60 2 (inner (inner (nthC 5 dlB))) (dlS n ys wo i j)))=some (.exit 0,slotsOf 42 [(0,.sl 0 0 0 1 n n false true),(5,.int .i64 i)],ixH n ys wo):=by kernel_rfl
theorem dl_e' (n:Nat) (ys wo:List Int) (i j:Int):obX (cutR [0,5] 2 (exec Tryz.prog (dlC [(19,false)]) 60 2 (inner (inner (nthC 5 dlB))) (dlS n ys wo i j)))=(andT true !decide (j<((n:Nat):Int))):=by kernel_rfl
theorem dl_s (n m:Nat) (ys wo:List Int) (i:Int):resX (cutR [0,5,38] 2 ((runOps Tryz.prog (callG Tryz.prog (dlC []) fun k=>Sy.exec Tryz.prog (dlC []) 60 k) (dlC []).sym (dlC []).inp 2 (opsOf (nthC 6 dlB)) [0,1,2] ⟨slotsOf 42 [(0,.sl 0 0 0 1 n n false true),(5,.int .i64 i)],ixH m ys wo,true⟩).map fun s=>(Exit.normal,s)))=some (.normal,slotsOf 42 [(0,.sl 0 0 0 1 n n false true),(5,.int .i64 i),(38,.sl 0 0 (0+i.toNat) 1 (n-i.toNat) (n-i.toNat) false false)],ixH m ys wo):=by kernel_rfl
theorem dl_s' (n m:Nat) (ys wo:List Int) (i:Int):obX (cutR [0,5,38] 2 ((runOps Tryz.prog (callG Tryz.prog (dlC []) fun k=>Sy.exec Tryz.prog (dlC []) 60 k) (dlC []).sym (dlC []).inp 2 (opsOf (nthC 6 dlB)) [0,1,2] ⟨slotsOf 42 [(0,.sl 0 0 0 1 n n false true),(5,.int .i64 i)],ixH m ys wo,true⟩).map fun s=>(Exit.normal,s)))=(andT true (andT true (andT true (decide (0≤i)&&decide (i≤((n:Nat):Int)))))):=by kernel_rfl
theorem dl_f (n m:Nat) (ys wo:List Int) (i:Int):resX (cutR [4] 2 (execA Tryz.prog (dlC []) 60 2 ((atoms dlB).drop 7) ⟨slotsOf 42 [(0,.sl 0 0 0 1 n n false true),(5,.int .i64 i)],ixH m ys wo,true⟩))=some (.ret,slotsOf 42 [(4,.sl 0 0 0 1 i.toNat n false false)],ixH m ys wo):=by kernel_rfl
theorem dl_f' (n m:Nat) (ys wo:List Int) (i:Int):obX (cutR [4] 2 (execA Tryz.prog (dlC []) 60 2 ((atoms dlB).drop 7) ⟨slotsOf 42 [(0,.sl 0 0 0 1 n n false true),(5,.int .i64 i)],ixH m ys wo,true⟩))=(andT true (andT true (decide (0≤i)&&decide (i≤(((n):Nat):Int))))):=by kernel_rfl
theorem TrL.post {P:Program} {ro:Option Nat} {k:Nat}:∀{l:List Code} {s s1 s':St} {x:Exit},TrL P ro k l s x s1→Ent k s1 s'→l≠[]→TrL P ro k l s x s'
 | [],_,_,_,_,_,_,h=>absurd rfl h
 | [_],_,_,_,_,.inl ⟨_,h1,h2,h3⟩,g,_=>.inl ⟨_,h1.post (h3▸g),h2,rfl⟩
 |_::_::_,_,_,_,_,.inl ⟨s2,h1,h2⟩,g,_=>.inl ⟨s2,h1,TrL.post h2 g (by simp)⟩
 |_::_,_,_,_,_,.inr ⟨hx,h1⟩,g,_=>.inr ⟨hx,h1.post g⟩
theorem TrL.cutA {P:Program} {ro:Option Nat} {k:Nat} {Γ:Ctr} (hΓ:CtrSound P Γ) (n:Nat) (live:List Nat) (m:Nat) (hm:k≤m) {l:List Code} {s s':St} {x:Exit} (ob:Bool) (e:resX (cutR live m (execA P Γ n k l s))=some (x,s'.t,s'.h)) (hob:obX (cutR live m (execA P Γ n k l s))=ob) (h:ob=true) (hl:l≠[]):TrL P ro k l s x s':=by
 unfold resX cutR at e
 unfold obX cutR at hob
 cases hr:execA P Γ n k l s with
 |none=>rw [hr] at e;cases e
 |some q=>
  obtain ⟨y,q⟩:=q
  rw [hr] at e hob
  simp only [Option.bind_some] at e hob
  cases hc:q.cut live m with
  |none=>rw [hc] at e;cases e
  |some q2=>
   rw [hc] at e hob
   simp only [Option.map_some,Option.some.injEq,Prod.mk.injEq] at e hob
   obtain ⟨rfl,h1,h2⟩:=e
   have hq:q.ob=true:=by
    unfold St.cut St.trunc at hc
    split at hc
    ·cases hc;exact hob.trans h
    ·cases hc
   exact TrL.post (TrL.rest hΓ n hr hq) ((Ent.cut hm hc).trans (Ent.same h1 h2)) hl
theorem VE.cap (b o i z len cap cap2:Nat) (hc:cap2≤cap) {ex wh:Bool}:VE (.sl b o i z len cap ex wh) (.sl b o i z len cap2 false false):=fun e x h=>by
 rcases h with ⟨h1,h2,h3⟩|⟨p,c,a,h1,h2,h3,h4,_,h6,h7⟩
 ·exact .inl ⟨h1,by omega,h3⟩
 ·exact .inr ⟨p,c,a,h1,h2,h3,Nat.le_trans hc h4,(by simp),h6,h7⟩
theorem FnTr.resV {P:Program} {f:FuncId} {us:List SV} {h h1:List Blk} {v u:SV} (g:FnTr P f us h v h1) (q:VE v u):FnTr P f us h u h1:=FnTr.post g (Ent.slot (t:=[some v]) 0 rfl q)
def keptB (xs wo:List Int):List Int:=xs.filter fun x=>!hasB wo x
section
variable (xs wo:List Int) (i0:Nat)
def dlP:Nat→Nat×List Int
 |0=>(i0,xs)
 |t+1=>match dlP t with
  |(i,l)=>bif hasB wo (xs.getD (i0+1+t) 0) then (i,l) else (i+1,l.set i (xs.getD (i0+1+t) 0))
end
section
variable {xs wo:List Int} {i0:Nat}
theorem take_set {l:List Int} {i:Nat} {v:Int} (h:i<l.length):(l.set i v).take (i+1)=l.take i++[v]:=by
 rw [List.take_add_one,List.getElem?_set_self h,List.take_set_of_le (Nat.le_refl _)];rfl
theorem kept_take (h:i0<xs.length) (hl:∀j,j<i0→hasB wo (xs.getD j 0)=false) (hi:hasB wo (xs.getD i0 0)=true):xs.take i0=keptB (xs.take (i0+1)) wo:=by
 unfold keptB
 rw [List.take_add_one,List.filter_append,List.getElem?_eq_getElem h,List.filter_eq_self.2,Option.toList_some,List.filter_cons, ←getD_get h,hi]
 ·simp
 ·intro a ha
  obtain ⟨j,hj,rfl⟩:=List.mem_iff_getElem.1 ha
  rw [List.length_take] at hj
  have:=hl j (by omega)
  rw [getD_get (by omega)] at this
  rw [List.getElem_take,this];rfl
theorem dlP_inv (h:i0<xs.length) (hl:∀j,j<i0→hasB wo (xs.getD j 0)=false) (hi:hasB wo (xs.getD i0 0)=true):∀t,i0+1+t≤xs.length→(dlP xs wo i0 t).1≤i0+t∧(dlP xs wo i0 t).2.length=xs.length∧(∀q,i0+1+t≤q→(dlP xs wo i0 t).2.getD q 0=xs.getD q 0)∧(dlP xs wo i0 t).2.take (dlP xs wo i0 t).1=keptB (xs.take (i0+1+t)) wo:=by
 intro t
 induction t with
 |zero=>intro _;exact ⟨by simp [dlP],rfl,fun _ _=>rfl,kept_take h hl hi⟩
 |succ t ih=>
  intro ht
  obtain ⟨a1,a2,a3,a4⟩:=ih (by omega)
  unfold dlP
  generalize dlP xs wo i0 t=p at a1 a2 a3 a4
  obtain ⟨i,l⟩:=p
  simp only at a1 a2 a3 a4 ⊢
  have hk:keptB (xs.take (i0+1+(t+1))) wo=keptB (xs.take (i0+1+t)) wo++bif hasB wo (xs.getD (i0+1+t) 0) then [] else [xs.getD (i0+1+t) 0]:=by
   unfold keptB
   rw [show i0+1+(t+1)=(i0+1+t)+1 by omega,List.take_add_one,List.filter_append,List.getElem?_eq_getElem (show i0+1+t<xs.length by omega),Option.toList_some,List.filter_cons,getD_get (show i0+1+t<xs.length by omega)]
   cases hasB wo xs[i0+1+t]<;>rfl
  cases hb:hasB wo (xs.getD (i0+1+t) 0) with
  |true=>
   rw [hb] at hk
   exact ⟨by show i≤_;omega,a2,fun q hq=>a3 q (by omega),by show l.take i=_;rw [hk,a4];simp⟩
  |false=>
   rw [hb] at hk
   refine ⟨by show i+1≤_;omega,by show (l.set i _).length=_;rw [List.length_set];exact a2,fun q hq=>?_,?_⟩
   ·show (l.set i _).getD q 0=_
    rw [List.getD_eq_getElem?_getD,List.getElem?_set_ne (by omega), ←List.getD_eq_getElem?_getD]
    exact a3 q (by omega)
   ·show (l.set i _).take (i+1)=_
    rw [hk,take_set (by omega),a4];rfl
theorem delete_fn {n:Nat} (hl:xs.length=n) (hn:n≤274877906944) (hw:wo.length≤274877906944):FnTr Tryz.prog 110 [.sl 0 0 0 1 n n false true,fnD] (ixH n xs wo) (.sl 0 0 0 1 (keptB xs wo).length (keptB xs wo).length false false) (ixH (keptB xs wo).length (keptB xs wo) wo):=by
 have hw':=decide_eq_true hw
 cases hv:firstN (fun i=>!hasB wo (xs.getD i 0)) n with
 |none=>
  have hV:ixV n xs wo=-1:=by unfold ixV scanV;rw [hv]
  have hk:keptB xs wo=xs:=List.filter_eq_self.2 fun a ha=>by
   obtain ⟨j,hj,rfl⟩:=List.mem_iff_getElem.1 ha
   have:=firstN_none hv j (by omega)
   rwa [getD_get hj] at this
  rw [hk,hl]
  refine FnTr.resV (FnTr.mk (vs:=[.sl 0 0 0 1 n n false true]) Tryz.func110 rfl (x:=.ret) (s:=⟨slotsOf 42 [(4,.sl 0 0 0 1 n n false true)],ixH n xs wo,true⟩) ?_ (.inl rfl) (by kernel_rfl)) (VE.cap 0 0 0 1 n n n (Nat.le_refl n))
  refine TrL.cutA (dlC_ok [(12,true)]) 60 _ 2 (Nat.le_refl 2) _ (dl_n n xs wo) (dl_n' n xs wo) ?_ (by intro q;have:=congrArg List.length q;revert this;decide)
  have h2:(scanV (fun i=>!hasB wo (xs.getD i 0)) n (fun i=>((i:Nat):Int)) (-1)==-1)=true:=by rw [show scanV _ n _ _=_ from hV];rfl
  rw [h2,hw',decide_eq_true hn,decide_eq_true hl];simp [andT]
 |some i0=>
  obtain ⟨f1,f2,f3⟩:=find_range hv
  have hV:ixV n xs wo=(i0:Int):=by unfold ixV scanV;rw [hv]
  have inv:=dlP_inv (xs:=xs) (wo:=wo) (i0:=i0) (by omega) (fun j hj=>by simpa using f3 j hj) (by simpa using f2)
  obtain ⟨e1,e2,e3,e4⟩:=inv (n-i0-1) (by omega)
  rw [show i0+1+(n-i0-1)=xs.length by omega,List.take_length] at e4
  have hm:(keptB xs wo).length=(dlP xs wo i0 (n-i0-1)).1:=by rw [←e4,List.length_take];omega
  rw [hm]
  have hk:(dlP xs wo i0 (n-i0-1)).1≤n:=by omega
  refine FnTr.resV (FnTr.mk (vs:=[.sl 0 0 0 1 (dlP xs wo i0 (n-i0-1)).1 n false false]) Tryz.func110 rfl (x:=.ret) (s:=⟨slotsOf 42 [(4,.sl 0 0 0 1 (dlP xs wo i0 (n-i0-1)).1 n false false)],ixH (dlP xs wo i0 (n-i0-1)).1 (keptB xs wo) wo,true⟩) ?_ (.inl rfl) (by kernel_rfl)) (VE.cap 0 0 0 1 _ n _ hk)
  have eh:=dl_h n xs wo
  rw [hV,wrapS (by omega)] at eh
  refine TrL.itemsX (dlC_ok [(12,false)]) 60 5 _ 2 (Nat.le_refl 2) (s1:=dlS n (dlP xs wo i0 0).2 wo ((dlP xs wo i0 0).1:Nat) ((i0+1+0:Nat):Int)) _ eh (dl_h' n xs wo) ?_ (by decide) rfl ?_
  ·have h2:(scanV (fun i=>!hasB wo (xs.getD i 0)) n (fun i=>((i:Nat):Int)) (-1)==-1)=false:=by
    rw [show scanV _ n _ _=_ from hV];exact beq_false_of_ne (by omega)
   rw [h2,hw',decide_eq_true hn,decide_eq_true hl];simp [andT]
  refine TrL.item 5 (by decide) (s1:=⟨slotsOf 42 [(0,.sl 0 0 0 1 n n false true),(5,.int .i64 ((dlP xs wo i0 (n-i0-1)).1:Nat))],ixH n (dlP xs wo i0 (n-i0-1)).2 wo,true⟩) (Tr.loop 0 (by kernel_rfl) (fun t=>dlS n (dlP xs wo i0 t).2 wo ((dlP xs wo i0 t).1:Nat) ((i0+1+t:Nat):Int)) (n-i0-1) (fun t ht=>?_) ?_) ?_
  ·obtain ⟨g1,g2,g3,_⟩:=inv t (by omega)
   have hj:i0+1+t<n:=by omega
   have gd:(dlP xs wo i0 t).2.getD (i0+1+t) 0=xs.getD (i0+1+t) 0:=g3 _ (Nat.le_refl _)
   have hs:dlP xs wo i0 (t+1)=bif hasB wo (xs.getD (i0+1+t) 0) then dlP xs wo i0 t else ((dlP xs wo i0 t).1+1,(dlP xs wo i0 t).2.set (dlP xs wo i0 t).1 (xs.getD (i0+1+t) 0)):=by
    rw [dlP]
   cases hb:hasB wo (xs.getD (i0+1+t) 0) with
   |true=>
    rw [hb,_root_.cond_true] at hs
    rw [hs]
    have e:=dl_sk n (dlP xs wo i0 t).2 wo ((dlP xs wo i0 t).1:Nat) ((i0+1+t:Nat):Int)
    rw [wrapS (by omega)] at e
    exact Tr.cutX (dlC_ok [(19,true),(28,true)]) 60 _ 2 (Nat.le_refl 2) (s':=dlS n (dlP xs wo i0 t).2 wo ((dlP xs wo i0 t).1:Nat) ((i0+1+t+1:Nat):Int)) _ e (dl_sk' _ _ _ _ _) (by rw [ltN hj,inBN hj,Int.toNat_natCast,Nat.zero_add,gd,hb,decide_eq_true hj,hw'];rfl)
   |false=>
    rw [hb,_root_.cond_false] at hs
    rw [hs]
    have hi:(dlP xs wo i0 t).1<n:=by omega
    have e:=dl_go n (dlP xs wo i0 t).2 wo ((dlP xs wo i0 t).1:Nat) ((i0+1+t:Nat):Int)
    rw [wrapS (by omega),wrapS (by omega),Int.toNat_natCast,Int.toNat_natCast,Nat.zero_add,Nat.zero_add,gd] at e
    exact Tr.cutX (dlC_ok [(19,true),(28,false)]) 60 _ 2 (Nat.le_refl 2) (s':=dlS n ((dlP xs wo i0 t).2.set (dlP xs wo i0 t).1 (xs.getD (i0+1+t) 0)) wo (((dlP xs wo i0 t).1+1:Nat):Int) ((i0+1+t+1:Nat):Int)) _ e (dl_go' _ _ _ _ _) (by rw [ltN hj,inBN hj,inBN hi,Int.toNat_natCast,Int.toNat_natCast,Nat.zero_add,Nat.zero_add,gd,hb,decide_eq_true hj,decide_eq_true hi,hw',decide_eq_true (show (dlP xs wo i0 t).2.length=n by omega)];rfl)
  ·have e:=dl_e n (dlP xs wo i0 (n-i0-1)).2 wo ((dlP xs wo i0 (n-i0-1)).1:Nat) (n:Int)
   rw [show i0+1+(n-i0-1)=n by omega]
   exact Tr.cutX (dlC_ok [(19,false)]) 60 _ 2 (Nat.le_refl 2) _ e (dl_e' n _ wo _ (n:Int)) (by rw [nltN (Nat.le_refl _)];rfl)
  generalize hq:dlP xs wo i0 (n-i0-1)=q at e1 e2 e3 e4 hk
  refine TrL.pre (s1:=⟨slotsOf 42 [(0,.sl 0 0 0 1 n n false true),(5,.int .i64 (q.1:Nat))],ixH q.1 (keptB xs wo) wo,true⟩) ?_ (e4▸Ent.shrinkI (b:=0) (t:=slotsOf 42 [(0,.sl 0 0 0 1 n n false true),(5,.int .i64 (q.1:Nat))]) (h:=ixH n q.2 wo) rfl hk) (by intro q;have:=congrArg List.length q;revert this;decide)
  refine TrL.item 6 (by decide) (s1:=⟨slotsOf 42 [(0,.sl 0 0 0 1 n n false true),(5,.int .i64 (q.1:Nat))],ixH q.1 (keptB xs wo) wo,true⟩) ?_ ?_
  ·rw [show nthC 6 (bodyOf Tryz.f110)= .region 11 (opsOf (nthC 6 dlB)) false by kernel_rfl]
   refine TrX.to (H:=HT) (H':=HT) (TrX.region 11 ?_) fun _ _ _=>trivial
   rw [show List.range (opsOf (nthC 6 dlB)).size=[0,1,2]++[3] by kernel_rfl]
   have e:=dl_s n q.1 (keptB xs wo) wo (q.1:Nat)
   have e':=dl_s' n q.1 (keptB xs wo) wo (q.1:Nat)
   rw [Int.toNat_natCast,Nat.zero_add] at e
   refine OX.append (OX.run0 (dlC_ok []) 60 _ 2 (Nat.le_refl 2) (s':=⟨slotsOf 42 [(0,.sl 0 0 0 1 n n false true),(5,.int .i64 (q.1:Nat)),(38,.sl 0 0 q.1 1 (n-q.1) (n-q.1) false false)],ixH q.1 (keptB xs wo) wo,true⟩) _ e e' (by rw [decide_eq_true (show (0:Int)≤(q.1:Nat) by omega),decide_eq_true (show ((q.1:Nat):Int)≤n by omega)];rfl)) ?_
   have hm2:(keptB xs wo).length=q.1:=hq▸hm
   refine OX.ent (fun _ _ _ _ h=>h) (OX.clear (dst:=none) (ty:=27) (el:=3) (x:=.tmp 38) (xs:=keptB xs wo) (m:=q.1) (len:=n-q.1) (cap:=n-q.1) (ex:=false) (wh:=false) (b:=0) (by kernel_rfl) (by kernel_rfl) (by kernel_rfl) (by kernel_rfl) rfl rfl hm2) ?_
   exact (Ent.keep 2 [0,5] _).trans (Ent.same (by kernel_rfl) rfl)
  ·have e:=dl_f n q.1 (keptB xs wo) wo (q.1:Nat)
   rw [Int.toNat_natCast] at e
   exact TrL.cutA (dlC_ok []) 60 _ 2 (Nat.le_refl 2) _ e (dl_f' _ _ _ _ _) (by rw [decide_eq_true (show (0:Int)≤(q.1:Nat) by omega),decide_eq_true (show ((q.1:Nat):Int)≤n by omega)];rfl) (by intro q;have:=congrArg List.length q;revert this;decide)
end
end Go.Proofs.YthlnlcijnoadcaaGreatDoor.Mk
end
section
namespace Go.Proofs.YthlnlcijnoadcaaGreatDoor.Mk
open Go Go.Sy Tr Wi S2
noncomputable def deleteE:Entry Tryz.prog:=.mut 110 _ Tryz.func110 (by decide) rfl pickD 0 (fun us h0=>match us,h0 with
 | [.sl 0 0 0 1 n n' false true,.fn (.func 121) [] [.ptr 1 0 0]],[.b [.ints .i64 n2 xs],.b [.ro false .i64 wo]]=>some (.sl 0 0 0 1 (keptB xs wo).length (keptB xs wo).length false false,ixH (keptB xs wo).length (keptB xs wo) wo,decide (n=n')&&decide (n=n2)&&decide (xs.length=n)&&decide (n≤274877906944)&&decide (wo.length≤274877906944))
 |_,_=>none) fun us h0 v h1 e=>by
 split at e
 ·simp only [Option.some.injEq,Prod.mk.injEq,Bool.and_eq_true,decide_eq_true_eq] at e
  obtain ⟨rfl,rfl,⟨⟨⟨rfl,rfl⟩,h3⟩,h4⟩,h5⟩:=e
  exact delete_fn h3 h4 h5
 ·cases e
abbrev z32:List Int:=List.replicate 32 0
abbrev blankW:List Int:=nodeW false 0 z32 z32 z32 []
theorem putNode0_fn {u:Bool} {nm:Int} {k s p:List Int} (h:nodeB u nm k s p []=true):FnTr Tryz.prog 118 [.agg [.bool u,.int .i64 nm,.ints .u8 32 k,.ints .u8 32 s,.ints .u8 32 p,.nl (.slice none 0 0)]] [] (.tup [.ro true .u8 (nodeW u nm k s p []),.nl .nilIface]) []:=
 FnTr.conv (putNode_fn h) ⟨VE.agg (PE.last (ps:=[.bool u,.int .i64 nm,.ints .u8 32 k,.ints .u8 32 s,.ints .u8 32 p]) rfl rfl (VE.nilRo false .i64)),trivial⟩ trivial (VE.refl _) trivial
noncomputable def putNode0E:Entry Tryz.prog:=.val 118 _ Tryz.func118 (by decide) rfl true 0 (fun vs=>match vs with
 | [.agg [.bool u,.int .i64 nm,.ints .u8 32 k,.ints .u8 32 s,.ints .u8 32 p,.nl (.slice none 0 0)]]=>some (.tup [.ro true .u8 (nodeW u nm k s p []),.nl .nilIface],[],nodeB u nm k s p [])
 |_=>none) fun vs v new e=>by
 split at e
 ·simp only [Option.some.injEq,Prod.mk.injEq] at e
  obtain ⟨rfl,rfl,h⟩:=e
  exact putNode0_fn h
 ·cases e
def nodW (n:Nod) (un:List Int):List Int:=nodeW n.used n.name n.key n.sign n.par un
def leafW (t:Nat→Nod) (wo:List Int) (x:Nat):List Int:=bif hasB wo ((x/2:Nat):Int) then blankW else nodW (t x) (t x).un
noncomputable def digL (t:Nat→Nod) (wo:List Int):Nat→Nat→List Int
 |0,x=>shortW [[1,((x/2:Nat):Int)],leafW t wo x].flatten
 |k+1,x=>shortW [[2],nodW (t x) (keptB (t x).un wo),digL t wo k (x-2^k),digL t wo k (x+2^k)].flatten
noncomputable def digV (t:Nat→Nod) (wo:List Int) (x:Int):List Int:=digL t wo (lvN 7 x.toNat) x.toNat
def nodB (n:Nod) (un:List Int):Bool:=nodeB n.used n.name n.key n.sign n.par un
def digOK (N:Nat) (t:Nat→Nod) (wo:List Int) (x:Int) (k:Nat):Bool:=((List.range N).all fun i=>nodB (t i) (t i).un&&nodB (t i) (keptB (t i).un wo))&&treeN N&&decide (0≤x)&&decide (x<N)&&decide (lvN 7 x.toNat<k)&&decide (wo.length≤274877906944)
def DigFn (k:Nat):Prop:=∀(N:Nat) (t:Nat→Nod) (wo:List Int) (x:Int),TOK N t→digOK N t wo x k=true→
 FnTr Tryz.prog 78 [.rol false 99 N (tng t),.int .i64 x,.ro false .i64 wo] [] (.agg [.ints .u8 32 (digV t wo x)]) []
noncomputable def digE (k:Nat) (ih:DigFn k):Entry Tryz.prog:=.val 78 _ Tryz.func78 (by decide) rfl true 0 (fun vs=>match vs with
 | [.rol false 99 N g,.int .i64 x,.ro false .i64 wo]=>some (.agg [.ints .u8 32 (digV (treeOf g) wo x)],[],okT N g&&decide (N≤71)&&digOK N (treeOf g) wo x k)
 |_=>none) fun vs v new e=>by
 split at e
 ·simp only [Option.some.injEq,Prod.mk.injEq,Bool.and_eq_true,decide_eq_true_eq] at e
  obtain ⟨rfl,rfl,⟨h1,h2⟩,h3⟩:=e
  exact FnTr.conv (ih _ _ _ _ (TOK.of h1 h2) h3) ⟨VE.tree h1,VE.refl _,VE.refl _,trivial⟩ trivial (VE.refl _) trivial
 ·cases e
noncomputable def dgC0 (l:List (Nat×Bool)):Ctr:=mk (P:=Tryz.prog) [childrenE,containsE,putNode0E,shortE] [] (uT l)
theorem dgC0_ok (l:List (Nat×Bool)):CtrSound Tryz.prog (dgC0 l):=mk_sound _ InlOK.nil _ _
noncomputable def dgC1 (l:List (Nat×Bool)):Ctr:=mk (P:=Tryz.prog) [childrenE,containsE,putNodeE,shortE] [] (uT l)
theorem dgC1_ok (l:List (Nat×Bool)):CtrSound Tryz.prog (dgC1 l):=mk_sound _ InlOK.nil _ _
noncomputable def dgC2 (l:List (Nat×Bool)):Ctr:=mk (P:=Tryz.prog) [childrenE,containsE,cloneTE,deleteE] [] (uT l)
theorem dgC2_ok (l:List (Nat×Bool)):CtrSound Tryz.prog (dgC2 l):=mk_sound _ InlOK.nil _ _
noncomputable def dgC3 (k:Nat) (ih:DigFn k) (l:List (Nat×Bool)):Ctr:=mk (P:=Tryz.prog) [putNodeE,digE k ih,shortE] [] (uT l)
theorem dgC3_ok (k:Nat) (ih:DigFn k) (l:List (Nat×Bool)):CtrSound Tryz.prog (dgC3 k ih l):=mk_sound _ InlOK.nil _ _
noncomputable def dgB:Code:=bodyOf Tryz.f78
abbrev dgH (wo:List Int) (n:Nod) (v:SV):List Blk:=[.b [.ro false .i64 wo],.b [.ints .u8 32 z32],.b [.bool n.used,.int .i64 n.name,.ints .u8 32 n.key,.ints .u8 32 n.sign,.ints .u8 32 n.par,v]]
noncomputable def dgT (N:Nat) (t:Nat→Nod) (l r:Int):List (Option SV):=slotsOf 69 [(0,.rol false 99 N (tng t)),(5,.ptr 0 0 0),(6,.ptr 1 0 0),(7,.ptr 2 0 0),(8,.int .i64 l),(9,.int .i64 r)]
noncomputable def dgS (N:Nat) (t:Nat→Nod) (l r:Int) (wo:List Int) (n:Nod) (un:List Int):St:=⟨dgT N t l r,dgH wo n (.ro false .i64 un),true⟩
theorem dg_0 (N:Nat) (t:Nat→Nod) (x:Int) (wo:List Int):(callS Tryz.prog (dgC0 [(26,true),(30,true)]) 60 Tryz.f78 [.rol false 99 N (tng t),.int .i64 x,.ro false .i64 wo] []).map (fun x=>(x.1,x.2.2))=some (.agg [.ints .u8 32 (shortW [[1,IntKind.u8.wrap (IntKind.i64.wrap (x.tdiv 2))],blankW].flatten)],andT (andT (andT (andT (andT (andT (andT true (inB x N)) (true&&(decide (x.toNat<N)&&true))) (andT true (decide (0≤x)&&decide (x<64)))) (decide (leftV x<0))) (andT true (decide (wo.length≤274877906944)))) (hasB wo (IntKind.i64.wrap (x.tdiv 2)))) (andT (andT true (andT (andT true (decide ((((List.replicate 2 0).set 0 1).set (0+1+0) (IntKind.u8.wrap (IntKind.i64.wrap (x.tdiv 2)))).length=2)&&true)) (decide ((((List.replicate 2 0).set 0 1).set (0+1+0) (IntKind.u8.wrap (IntKind.i64.wrap (x.tdiv 2)))).length=2)))) (decide (([((List.replicate 2 0).set 0 1).set (0+1+0) (IntKind.u8.wrap (IntKind.i64.wrap (x.tdiv 2))),nodeW false 0 (List.replicate 32 0) (List.replicate 32 0) (List.replicate 32 0) []],andT (andT true (decide ((((List.replicate 2 0).set 0 1).set (0+1+0) (IntKind.u8.wrap (IntKind.i64.wrap (x.tdiv 2)))).length=2)&&(decide (2≤2)&&decide (0=0)))) (decide ((((List.replicate 2 0).set 0 1).set (0+1+0) (IntKind.u8.wrap (IntKind.i64.wrap (x.tdiv 2)))).length=2))).fst.flatten.length<274877900000)&&decide (([((List.replicate 2 0).set 0 1).set (0+1+0) (IntKind.u8.wrap (IntKind.i64.wrap (x.tdiv 2))),nodeW false 0 (List.replicate 32 0) (List.replicate 32 0) (List.replicate 32 0) []],andT (andT true (decide ((((List.replicate 2 0).set 0 1).set (0+1+0) (IntKind.u8.wrap (IntKind.i64.wrap (x.tdiv 2)))).length=2)&&(decide (2≤2)&&decide (0=0)))) (decide ((((List.replicate 2 0).set 0 1).set (0+1+0) (IntKind.u8.wrap (IntKind.i64.wrap (x.tdiv 2)))).length=2))).fst.length≤274877906944)))):=by kernel_rfl
theorem dg_1 (N:Nat) (t:Nat→Nod) (x:Int) (wo:List Int):(callS Tryz.prog (dgC1 [(26,true),(30,false)]) 60 Tryz.f78 [.rol false 99 N (tng t),.int .i64 x,.ro false .i64 wo] []).map (fun x=>(x.1,x.2.2))=some (.agg [.ints .u8 32 (shortW [[1,IntKind.u8.wrap (IntKind.i64.wrap (x.tdiv 2))],nodW (t x.toNat) (t x.toNat).un].flatten)],andT (andT (andT (andT (andT (andT (andT (andT true (inB x N)) (true&&(decide (x.toNat<N)&&true))) (andT true (decide (0≤x)&&decide (x<64)))) (decide (leftV x<0))) (andT true (decide (wo.length≤274877906944)))) !hasB wo (IntKind.i64.wrap (x.tdiv 2))) (andT true (Wi.nodeB (t x.toNat).used (t x.toNat).name (t x.toNat).key (t x.toNat).sign (t x.toNat).par (t x.toNat).un))) (andT (andT true (andT (andT true (decide ((((List.replicate 2 0).set 0 1).set (0+1+0) (IntKind.u8.wrap (IntKind.i64.wrap (x.tdiv 2)))).length=2)&&true)) (decide ((((List.replicate 2 0).set 0 1).set (0+1+0) (IntKind.u8.wrap (IntKind.i64.wrap (x.tdiv 2)))).length=2)))) (decide (([((List.replicate 2 0).set 0 1).set (0+1+0) (IntKind.u8.wrap (IntKind.i64.wrap (x.tdiv 2))),nodeW (t x.toNat).used (t x.toNat).name (t x.toNat).key (t x.toNat).sign (t x.toNat).par (t x.toNat).un],andT (andT true (decide ((((List.replicate 2 0).set 0 1).set (0+1+0) (IntKind.u8.wrap (IntKind.i64.wrap (x.tdiv 2)))).length=2)&&(decide (2≤2)&&decide (0=0)))) (decide ((((List.replicate 2 0).set 0 1).set (0+1+0) (IntKind.u8.wrap (IntKind.i64.wrap (x.tdiv 2)))).length=2))).fst.flatten.length<274877900000)&&decide (([((List.replicate 2 0).set 0 1).set (0+1+0) (IntKind.u8.wrap (IntKind.i64.wrap (x.tdiv 2))),nodeW (t x.toNat).used (t x.toNat).name (t x.toNat).key (t x.toNat).sign (t x.toNat).par (t x.toNat).un],andT (andT true (decide ((((List.replicate 2 0).set 0 1).set (0+1+0) (IntKind.u8.wrap (IntKind.i64.wrap (x.tdiv 2)))).length=2)&&(decide (2≤2)&&decide (0=0)))) (decide ((((List.replicate 2 0).set 0 1).set (0+1+0) (IntKind.u8.wrap (IntKind.i64.wrap (x.tdiv 2)))).length=2))).fst.length≤274877906944)))):=by kernel_rfl
theorem dg_a (N:Nat) (t:Nat→Nod) (x:Int) (wo:List Int):resX (cutR [0,5,6,7,8,9] 4 ((execL Tryz.prog (dgC2 [(26,false)]) 60 0 6 (atoms dgB) ⟨slots0 Tryz.f78.ntmps [.rol false 99 N (tng t),.int .i64 x,.ro false .i64 wo],[],true⟩).map fun s=>(Exit.normal,s)))=some (.normal,dgT N t (leftV x) (rightV x),dgH wo (t x.toNat) (.sl 3 0 0 1 (keptB (t x.toNat).un wo).length (keptB (t x.toNat).un wo).length false false)++[.b [.ints .i64 (keptB (t x.toNat).un wo).length (keptB (t x.toNat).un wo)]]):=by kernel_rfl
theorem dg_a' (N:Nat) (t:Nat→Nod) (x:Int) (wo:List Int):obX (cutR [0,5,6,7,8,9] 4 ((execL Tryz.prog (dgC2 [(26,false)]) 60 0 6 (atoms dgB) ⟨slots0 Tryz.f78.ntmps [.rol false 99 N (tng t),.int .i64 x,.ro false .i64 wo],[],true⟩).map fun s=>(Exit.normal,s)))=(andT (andT (andT (andT (andT (andT true (inB x N)) (true&&(decide (x.toNat<N)&&true))) (andT true (decide (0≤x)&&decide (x<64)))) !decide (leftV x<0)) (andT true (decide ((t x.toNat).un.length≤274877906944)))) (andT true (decide ((t x.toNat).un.length=(t x.toNat).un.length)&&decide ((t x.toNat).un.length=(t x.toNat).un.length)&&decide ((t x.toNat).un.length=(t x.toNat).un.length)&&decide ((t x.toNat).un.length≤274877906944)&&decide (wo.length≤274877906944)))):=by kernel_rfl
theorem dg_b (N:Nat) (t:Nat→Nod) (l r:Int) (wo:List Int) (n:Nod) (un:List Int) (k:Nat) (ih:DigFn k):resX (cutR [6] 2 (execA Tryz.prog (dgC3 k ih []) 60 0 ((atoms dgB).drop 6) (dgS N t l r wo n un)))=some (.ret,slotsOf 69 [(6,.ptr 1 0 0)],[.b [.ro false .i64 wo],.b [.ints .u8 32 (shortW [[2],nodW n un,digV t wo l,digV t wo r].flatten)]]):=by kernel_rfl
theorem dg_b' (N:Nat) (t:Nat→Nod) (l r:Int) (wo:List Int) (n:Nod) (un:List Int) (k:Nat) (ih:DigFn k):obX (cutR [6] 2 (execA Tryz.prog (dgC3 k ih []) 60 0 ((atoms dgB).drop 6) (dgS N t l r wo n un)))=(andT (andT (andT (andT true (andT true (Wi.nodeB n.used n.name n.key n.sign n.par un))) (andT true ((okT N fun i=>coolL (tng t i))&&decide (N≤71)&&digOK N (treeOf fun i=>coolL (tng t i)) wo l k))) (andT true ((okT N fun i=>coolL (tng t i))&&decide (N≤71)&&digOK N (treeOf fun i=>coolL (tng t i)) wo r k))) (andT (andT true (andT (andT (andT (andT true (decide ((digV (treeOf fun i=>coolL (tng t i)) wo r).length=32)&&true)) (decide ((digV (treeOf fun i=>coolL (tng t i)) wo r).length=32))) (decide ((digV (treeOf fun i=>coolL (tng t i)) wo l).length=32)&&true)) (decide ((digV (treeOf fun i=>coolL (tng t i)) wo l).length=32)))) (decide (([(List.replicate 1 0).set 0 2,nodeW n.used n.name n.key n.sign n.par un,digV (treeOf fun i=>coolL (tng t i)) wo l,digV (treeOf fun i=>coolL (tng t i)) wo r],andT (andT (andT (andT (andT (andT true (decide ((digV (treeOf fun i=>coolL (tng t i)) wo r).length=32)&&(decide ((32)≤32)&&decide ((0+0)=0)))) (decide ((digV (treeOf fun i=>coolL (tng t i)) wo r).length=32))) (decide ((digV (treeOf fun i=>coolL (tng t i)) wo l).length=32)&&(decide ((32)≤32)&&decide ((0+0)=0)))) (decide ((digV (treeOf fun i=>coolL (tng t i)) wo l).length=32))) (decide (((List.replicate 1 0).set 0 2).length=1)&&(decide (1≤1)&&decide (0=0)))) (decide (((List.replicate 1 0).set 0 2).length=1))).fst.flatten.length<274877900000)&&true))):=by kernel_rfl
theorem half_all:((List.range 64).all fun x=>IntKind.i64.wrap ((x:Int).tdiv 2)==((x/2:Nat):Int)&&IntKind.u8.wrap (IntKind.i64.wrap ((x:Int).tdiv 2))==((x/2:Nat):Int))=true:=by decide+kernel
theorem half_of {x:Nat} (h:x<64):IntKind.i64.wrap ((x:Int).tdiv 2)=((x/2:Nat):Int)∧IntKind.u8.wrap (IntKind.i64.wrap ((x:Int).tdiv 2))=((x/2:Nat):Int):=by
 have:=List.all_eq_true.1 half_all x (List.mem_range.2 h)
 simpa only [Bool.and_eq_true,beq_iff_eq] using this
theorem digL_len (t:Nat→Nod) (wo:List Int) (k x:Nat):(digL t wo k x).length=32:=by cases k<;>(unfold digL;exact shortW_len _)
theorem digV_len (t:Nat→Nod) (wo:List Int) (x:Int):(digV t wo x).length=32:=digL_len ..
theorem nodW_len {n:Nod} {un:List Int} (h:nodB n un=true):(nodW n un).length≤131:=by
 unfold nodB Wi.nodeB at h
 simp only [Bool.and_eq_true,decide_eq_true_eq] at h
 obtain ⟨⟨⟨⟨⟨⟨⟨⟨hk,hs⟩,hp⟩,h0⟩,h1⟩,hu⟩,hr⟩,hl⟩,hz⟩:=h
 unfold nodW
 rw [nodeW_len hk hs hp];omega
theorem blankW_len:blankW.length≤131:=nodW_len (n:=⟨false,0,z32,z32,z32,[]⟩) (un:=[]) (by decide+kernel)
theorem VE.roCool (f:Bool) (k:IntKind) (l:List Int):VE (.ro f k l) (.ro false k l):=fun e v h=>by
 rcases h with h|⟨n,o,cap,c,t,fr,h1,h2,_,h4⟩
 ·exact .inl h
 ·exact .inr ⟨n,o,cap,c,t,fr,h1,h2,by simp,h4⟩
theorem dg_z (N:Nat) (t:Nat→Nod) (l r:Int) (wo:List Int) (n:Nod) (un:List Int) (m:Nat):St.fz 3 ⟨dgT N t l r,dgH wo n (.sl 3 0 0 1 m m false false)++[.b [.ints .i64 m un]],true⟩=some (⟨dgT N t l r,dgH wo n (.ro true .i64 ((un.drop 0).take m))++[.b []],true⟩,andT (decide (un.length=m)) (andT ((dgT N t l r).all fun o=>match o with|some v=>fzO 3 m v|none=>true) (fzOA 3 m (dgH wo n (.sl 3 0 0 1 m m false false)++[.b [.ints .i64 m un]]) 0))):=by kernel_rfl
theorem dg_frz (N:Nat) (t:Nat→Nod) (l r:Int) (wo:List Int) (n:Nod) (un:List Int):Ent 0 ⟨dgT N t l r,dgH wo n (.sl 3 0 0 1 un.length un.length false false)++[.b [.ints .i64 un.length un]],true⟩ (dgS N t l r wo n un):=by
 have e:=dg_z N t l r wo n un un.length
 have e2:fzOA 3 un.length (dgH wo n (.sl 3 0 0 1 un.length un.length false false)++[.b [.ints .i64 un.length un]]) 0=true:=by simp [fzOA,fzOB,fzO,fzOL,andT_iff]
 have e3:((dgT N t l r).all fun o=>match o with|some v=>fzO 3 un.length v|none=>true)=true:=by kernel_rfl
 rw [e2,e3,decide_eq_true rfl,List.drop_zero,List.take_length] at e
 refine (Ent.freeze (k:=0) (b:=3) (Nat.zero_le _) e).trans ?_
 refine (Ent.trunc (n:=3) (Nat.zero_le _) (s':=⟨dgT N t l r,dgH wo n (.ro true .i64 un),true⟩) (by kernel_rfl)).trans ?_
 exact Ent.blks ⟨PE.refl _,PE.refl _,PE.last (ps:=[.bool n.used,.int .i64 n.name,.ints .u8 32 n.key,.ints .u8 32 n.sign,.ints .u8 32 n.par]) rfl rfl (VE.roCool true .i64 un),trivial⟩
section
variable {N:Nat} {t:Nat→Nod} {wo:List Int}
theorem digOK_mk {k:Nat} (hn:((List.range N).all fun i=>nodB (t i) (t i).un&&nodB (t i) (keptB (t i).un wo))=true) (ht:treeN N=true) (hw:wo.length≤274877906944) {y:Nat} (hy:y<N) (hk:lvN 7 y<k):digOK N t wo (y:Int) k=true:=by
 unfold digOK
 rw [hn,ht,Int.toNat_natCast,decide_eq_true hk,decide_eq_true (show (y:Int)<N by omega),decide_eq_true (show (0:Int)≤y by omega),decide_eq_true hw];rfl
theorem digest_fn:∀k,DigFn k:=by
 intro k
 induction k with
 |zero=>intro N t wo x hT h;simp [digOK] at h
 |succ k ih=>
  intro N t wo x hT h
  unfold digOK at h
  simp only [Bool.and_eq_true,decide_eq_true_eq] at h
  obtain ⟨⟨⟨⟨⟨hu,ht⟩,h0⟩,hx⟩,hk⟩,hw⟩:=h
  obtain ⟨y,rfl⟩:=Int.eq_ofNat_of_zero_le h0
  rw [Int.toNat_natCast] at hk
  have hx:y<N:=by omega
  obtain ⟨n,hn,hN⟩:=treeN_iff ht
  have hs:=sizes_le hn
  have hin:inB (y:Int) N=true:=inBN hx
  have hun:=List.all_eq_true.1 hu y (List.mem_range.2 hx)
  rw [Bool.and_eq_true] at hun
  obtain ⟨f1,f2⟩:=half_of (x:=y) (by omega)
  cases hl:lvN 7 y with
  |zero=>
   have hV:digV t wo (y:Int)=shortW [[1,((y/2:Nat):Int)],leafW t wo y].flatten:=by unfold digV;rw [Int.toNat_natCast,hl,digL]
   have hleft:=(kid_zero hn (hN▸hx) hl).1
   rw [hV]
   unfold leafW
   cases hb:hasB wo ((y/2:Nat):Int) with
   |true=>
    have e:=dg_0 N t y wo
    rw [f2] at e
    have hB:(nodeW false 0 (List.replicate 32 0) (List.replicate 32 0) (List.replicate 32 0) []).length≤131:=blankW_len
    refine call0 (dgC0_ok [(26,true),(30,true)]) 60 Tryz.func78 e ?_ rfl
    rw [f1,hb,hin,Int.toNat_natCast,decide_eq_true hx,hleft,decide_eq_true hw,decide_eq_true (show (0:Int)≤y by omega),decide_eq_true (show (y:Int)<64 by omega)]
    generalize nodeW false 0 (List.replicate 32 0) (List.replicate 32 0) (List.replicate 32 0) []=W at hB ⊢
    simp [andT_iff]
    omega
   |false=>
    have e:=dg_1 N t y wo
    rw [f2,Int.toNat_natCast] at e
    have hB:=nodW_len hun.1
    refine call0 (dgC1_ok [(26,true),(30,false)]) 60 Tryz.func78 e ?_ rfl
    rw [f1,hb,hin,decide_eq_true hx,hleft,decide_eq_true hw,decide_eq_true (show (0:Int)≤y by omega),decide_eq_true (show (y:Int)<64 by omega),show Wi.nodeB _ _ _ _ _ _=true from hun.1]
    unfold nodW at hB
    simp [andT_iff]
    omega
  |succ j=>
   obtain ⟨h1,h2,h3,h4,h5,h6,h7⟩:=kid_succ hn (hN▸hx) hl
   have hV:digV t wo (y:Int)=shortW [[2],nodW (t y) (keptB (t y).un wo),digV t wo ((y-2^j:Nat):Int),digV t wo ((y+2^j:Nat):Int)].flatten:=by
    unfold digV;rw [Int.toNat_natCast,Int.toNat_natCast,Int.toNat_natCast,hl,h5,h6,digL]
   have hok:okT N (fun i=>coolL (tng t i))=true:=okT_tng hT
   have r1:digOK N (treeOf fun i=>coolL (tng t i)) wo ((y-2^j:Nat):Int) k=true:=digOK_mk (t:=t) hu ht hw (by omega) (by omega)
   have r2:digOK N (treeOf fun i=>coolL (tng t i)) wo ((y+2^j:Nat):Int) k=true:=digOK_mk (t:=t) hu ht hw (by omega) (by omega)
   have d1:(digV (treeOf fun i=>coolL (tng t i)) wo ((y-2^j:Nat):Int)).length=32:=digV_len ..
   have d2:(digV (treeOf fun i=>coolL (tng t i)) wo ((y+2^j:Nat):Int)).length=32:=digV_len ..
   have hB:=nodW_len hun.2
   rw [hV]
   have ea:=dg_a N t y wo
   have ea':=dg_a' N t y wo
   rw [h1,h2,Int.toNat_natCast] at ea
   have eb:=dg_b N t ((y-2^j:Nat):Int) ((y+2^j:Nat):Int) wo (t y) (keptB (t y).un wo) k ih
   have eb':=dg_b' N t ((y-2^j:Nat):Int) ((y+2^j:Nat):Int) wo (t y) (keptB (t y).un wo) k ih
   generalize hL:shortW [[2],nodW (t y) (keptB (t y).un wo),digV t wo ((y-2^j:Nat):Int),digV t wo ((y+2^j:Nat):Int)].flatten=L at eb
   refine FnTr.sel (v:=.agg [.ints .u8 32 L]) (h1:=[.b [.ro false .i64 wo],.b [.ints .u8 32 L]]) [] ?_ rfl
   refine FnTr.mk (vs:=[.agg [.ints .u8 32 L]]) Tryz.func78 rfl (x:=.ret) (s:=⟨slotsOf 69 [(6,.ptr 1 0 0)],[.b [.ro false .i64 wo],.b [.ints .u8 32 L]],true⟩) ?_ (.inl rfl) (by kernel_rfl)
   refine TrL.itemsX (dgC2_ok [(26,false)]) 60 6 _ 4 (Nat.zero_le _) (s1:=⟨dgT N t ((y-2^j:Nat):Int) ((y+2^j:Nat):Int),dgH wo (t y) (.sl 3 0 0 1 (keptB (t y).un wo).length (keptB (t y).un wo).length false false)++[.b [.ints .i64 (keptB (t y).un wo).length (keptB (t y).un wo)]],true⟩) _ ea ea' ?_ (by decide) rfl ?_
   ·rw [hin,Int.toNat_natCast,decide_eq_true hx,h1,decide_eq_true hw,decide_eq_true (show (0:Int)≤y by omega),decide_eq_true (show (y:Int)<64 by omega),decide_eq_true (hT.un y hx),decide_eq_false (show ¬((y-2^j:Nat):Int)<0 by omega),decide_eq_true (Eq.refl (t y).un.length)];rfl
   refine TrL.pre ?_ (dg_frz N t ((y-2^j:Nat):Int) ((y+2^j:Nat):Int) wo (t y) (keptB (t y).un wo)) (by intro q;have:=congrArg List.length q;revert this;decide)
   refine TrL.cutA (dgC3_ok k ih []) 60 _ 2 (Nat.zero_le _) _ eb eb' ?_ (by intro q;have:=congrArg List.length q;revert this;decide)
   rw [hok,decide_eq_true hT.le,r1,r2,d1,d2,show Wi.nodeB _ _ _ _ _ _=true from hun.2]
   unfold nodW at hB
   simp [andT_iff,digV_len]
   omega
end
end Go.Proofs.YthlnlcijnoadcaaGreatDoor.Mk
end
