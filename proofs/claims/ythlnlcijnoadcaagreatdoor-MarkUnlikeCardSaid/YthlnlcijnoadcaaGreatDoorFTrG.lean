/- This file holds the texts TrF, TrG, a section each. No conditions beyond those in the theorems. -/
import Derived.Test.YthlnlcijnoadcaaGreatDoorFTrE
set_option linter.all false
set_option maxRecDepth 100000
section
namespace Go.Proofs.YthlnlcijnoadcaaGreatDoor.Tr
open Go Go.Sy
def sameB (u u':Bool) (n n':Int) (k s p un k' s' p' un':List Int):Bool:=(u==u')&&(n==n')&&decide (k=k')&&decide (s=s')&&decide (p=p')&&decide (un=un')
def smT (a b c d e:Bool):Nat→Option Bool:=fun i=>if i=10 then some a else if i=17 then some b else if i=24 then some c else if i=31 then some d else if i=38 then some e else none
noncomputable def smC (a b c d e:Bool):Ctr:=mk (P:=Tryz.prog) [equalE] [] (smT a b c d e)
theorem smC_ok (a b c d e:Bool):CtrSound Tryz.prog (smC a b c d e):=mk_sound _ InlOK.nil _ _
theorem sm_0 (u u':Bool) (n n':Int) (k s p un k' s' p' un':List Int):(callS Tryz.prog (smC false false false false false) 60 Tryz.f114 [nod u n k s p un,nod u' n' k' s' p' un'] []).map (fun x=>(x.1,x.2.2))=some (.bool false,andT true !u==u'):=by kernel_rfl
theorem sm_1 (u u':Bool) (n n':Int) (k s p un k' s' p' un':List Int):(callS Tryz.prog (smC true false false false false) 60 Tryz.f114 [nod u n k s p un,nod u' n' k' s' p' un'] []).map (fun x=>(x.1,x.2.2))=some (.bool false,andT (andT true (u==u')) !n==n'):=by kernel_rfl
theorem sm_2 (u u':Bool) (n n':Int) (k s p un k' s' p' un':List Int):(callS Tryz.prog (smC true true false false false) 60 Tryz.f114 [nod u n k s p un,nod u' n' k' s' p' un'] []).map (fun x=>(x.1,x.2.2))=some (.bool false,andT (andT (andT (andT true (u==u')) (n==n')) (andT (decide (k.length=32)) (decide (k'.length=32)))) !decide (k=k')):=by kernel_rfl
theorem sm_3 (u u':Bool) (n n':Int) (k s p un k' s' p' un':List Int):(callS Tryz.prog (smC true true true false false) 60 Tryz.f114 [nod u n k s p un,nod u' n' k' s' p' un'] []).map (fun x=>(x.1,x.2.2))=some (.bool false,andT (andT (andT (andT (andT (andT true (u==u')) (n==n')) (andT (decide (k.length=32)) (decide (k'.length=32)))) (decide (k=k'))) (andT (decide (s.length=32)) (decide (s'.length=32)))) !decide (s=s')):=by kernel_rfl
theorem sm_4 (u u':Bool) (n n':Int) (k s p un k' s' p' un':List Int):(callS Tryz.prog (smC true true true true false) 60 Tryz.f114 [nod u n k s p un,nod u' n' k' s' p' un'] []).map (fun x=>(x.1,x.2.2))=some (.bool false,andT (andT (andT (andT (andT (andT (andT (andT true (u==u')) (n==n')) (andT (decide (k.length=32)) (decide (k'.length=32)))) (decide (k=k'))) (andT (decide (s.length=32)) (decide (s'.length=32)))) (decide (s=s'))) (andT (decide (p.length=32)) (decide (p'.length=32)))) !decide (p=p')):=by kernel_rfl
theorem sm_5 (u u':Bool) (n n':Int) (k s p un k' s' p' un':List Int):(callS Tryz.prog (smC true true true true true) 60 Tryz.f114 [nod u n k s p un,nod u' n' k' s' p' un'] []).map (fun x=>(x.1,x.2.2))=some (.bool (decide (un=un')),andT (andT (andT (andT (andT (andT (andT (andT (andT true (u==u')) (n==n')) (andT (decide (k.length=32)) (decide (k'.length=32)))) (decide (k=k'))) (andT (decide (s.length=32)) (decide (s'.length=32)))) (decide (s=s'))) (andT (decide (p.length=32)) (decide (p'.length=32)))) (decide (p=p'))) (andT true (decide (un.length≤274877906944)))):=by kernel_rfl
theorem same_fn {u u':Bool} {n n':Int} {k s p un k' s' p' un':List Int} (h1:k.length=32) (h2:k'.length=32) (h3:s.length=32) (h4:s'.length=32) (h5:p.length=32) (h6:p'.length=32) (hl:un.length≤274877906944):
  FnTr Tryz.prog 114 [nod u n k s p un,nod u' n' k' s' p' un'] [] (.bool (sameB u u' n n' k s p un k' s' p' un')) []:=by
 unfold sameB
 cases e1:(u==u') with
 |false=>exact call0 (smC_ok false false false false false) 60 Tryz.func114 (sm_0 u u' n n' k s p un k' s' p' un') (by simp [andT,e1]) rfl
 |true=>
  cases e2:(n==n') with
  |false=>exact call0 (smC_ok true false false false false) 60 Tryz.func114 (sm_1 u u' n n' k s p un k' s' p' un') (by simp [andT,e1,e2]) rfl
  |true=>
   by_cases e3:k=k'
   ·by_cases e4:s=s'
    ·by_cases e5:p=p'
     ·rw [decide_eq_true e3,decide_eq_true e4,decide_eq_true e5]
      exact call0 (smC_ok true true true true true) 60 Tryz.func114 (sm_5 u u' n n' k s p un k' s' p' un') (by simp [andT,e1,e2,e3,e4,e5,h2,h4,h6,hl]) rfl
     ·rw [decide_eq_false e5,Bool.and_false,Bool.false_and]
      exact call0 (smC_ok true true true true false) 60 Tryz.func114 (sm_4 u u' n n' k s p un k' s' p' un') (by simp [andT,e1,e2,e3,e4,e5,h2,h4,h5,h6]) rfl
    ·rw [decide_eq_false e4,Bool.and_false,Bool.false_and,Bool.false_and]
     exact call0 (smC_ok true true true false false) 60 Tryz.func114 (sm_3 u u' n n' k s p un k' s' p' un') (by simp [andT,e1,e2,e3,e4,h2,h3,h4]) rfl
   ·rw [decide_eq_false e3,Bool.and_false,Bool.false_and,Bool.false_and,Bool.false_and]
    exact call0 (smC_ok true true false false false) 60 Tryz.func114 (sm_2 u u' n n' k s p un k' s' p' un') (by simp [andT,e1,e2,e3,h1,h2]) rfl
def lensB (k s p un:List Int):Bool:=decide (k.length=32)&&decide (s.length=32)&&decide (p.length=32)&&decide (un.length≤274877906944)
noncomputable def sameF:List SV→Option (SV×List Blk×Bool)
 | [.agg [.bool u,.int .i64 n,.ints .u8 32 k,.ints .u8 32 s,.ints .u8 32 p,.ro false .i64 un],.agg [.bool u',.int .i64 n',.ints .u8 32 k',.ints .u8 32 s',.ints .u8 32 p',.ro false .i64 un']]=>some (.bool (sameB u u' n n' k s p un k' s' p' un'),[],lensB k s p un&&lensB k' s' p' un')
 | [.agg [.bool u,.int .i64 n,.ints .u8 32 k,.ints .u8 32 s,.ints .u8 32 p,.ro false .i64 un],.agg [.bool u',.int .i64 n',.ints .u8 32 k',.ints .u8 32 s',.ints .u8 32 p',.nl (.slice none 0 0)]]=>some (.bool (sameB u u' n n' k s p un k' s' p' []),[],lensB k s p un&&lensB k' s' p' [])
 |_=>none
theorem lensB_iff {k s p un:List Int}:lensB k s p un=true↔k.length=32∧s.length=32∧p.length=32∧un.length≤274877906944:=by
 simp [lensB,and_assoc]
theorem VE.nilRo (f:Bool) (k:IntKind):VE (.nl (.slice none 0 0)) (.ro f k []):=fun e x h=>by rw [VR] at h;subst h;exact .inl ⟨rfl,none,0,rfl,fun _=>rfl⟩
theorem PE.last {ps:List SV} {x y:SV} (hx:notInts x=true) (hy:notInts y=true) (h:VE x y):PE (ps++[x]) (ps++[y]):=by
 have one:∀(e:Env) (us:List Value),PR e [x] us→PR e [y] us:=fun e us g=>by
  obtain ⟨v,zs,g1,g2,rfl⟩:=(PR.cons hx).1 g
  exact (PR.cons hy).2 ⟨v,zs,h e v g1,g2,rfl⟩
 refine ⟨by rw [psize_append,psize_append];simp [psize,psz_one hx,psz_one hy],fun e us g=>?_⟩
 obtain ⟨y1,y2,rfl,g1,g2⟩:=PR.split g
 exact g1.append (one e y2 g2)
noncomputable def sameE:Entry Tryz.prog:=.val 114 _ Tryz.func114 (by decide) rfl true 0 sameF fun vs v new e=>by
 unfold sameF at e
 split at e
 ·simp only [Option.some.injEq,Prod.mk.injEq,Bool.and_eq_true,lensB_iff] at e
  obtain ⟨rfl,rfl,⟨h1,h2,h3,h4⟩,h5,h6,h7,_⟩:=e
  exact same_fn h1 h5 h2 h6 h3 h7 h4
 ·rename_i u n k s p un u' n' k' s' p'
  simp only [Option.some.injEq,Prod.mk.injEq,Bool.and_eq_true,lensB_iff] at e
  obtain ⟨rfl,rfl,⟨h1,h2,h3,h4⟩,h5,h6,h7,_⟩:=e
  exact FnTr.conv (same_fn h1 h5 h2 h6 h3 h7 h4) ⟨VE.refl _,VE.agg (PE.last (ps:=[.bool u',.int .i64 n',.ints .u8 32 k',.ints .u8 32 s',.ints .u8 32 p']) rfl rfl (VE.nilRo false .i64)),trivial⟩ trivial (VE.refl _) trivial
 ·cases e
def emT (a b:Bool):Nat→Option Bool:=fun i=>if i=11 then some a else if i=18 then some b else none
noncomputable def emC (a b:Bool):Ctr:=mk (P:=Tryz.prog) [] [] (emT a b)
theorem emC_ok (a b:Bool):CtrSound Tryz.prog (emC a b):=mk_sound _ InlOK.nil _ _
noncomputable def emB:Code:=bodyOf Tryz.f117
abbrev tng (t:Nat→Nod):Nat→List SV:=fun i=>(t i).cells
noncomputable def emS (N:Nat) (t:Nat→Nod) (i:Int):St:=⟨slotsOf 19 [(0,.rol false 99 N (tng t)),(5,.int .i64 i)],[],true⟩
noncomputable def emF (b:Bool):St:=⟨slotsOf 19 [(4,.bool b)],[],true⟩
theorem em_head (N:Nat) (t:Nat→Nod) (x:Int):resX (cutR [0,5] 0 ((execL Tryz.prog (emC true true) 60 0 2 (atoms emB) ⟨slots0 Tryz.f117.ntmps [.rol false 99 N (tng t),.int .i64 x],[],true⟩).map fun s=>(Exit.normal,s)))=some (.normal,(emS N t (IntKind.i64.wrap (2*x))).t,[]):=by kernel_rfl
theorem em_head' (N:Nat) (t:Nat→Nod) (x:Int):obX (cutR [0,5] 0 ((execL Tryz.prog (emC true true) 60 0 2 (atoms emB) ⟨slots0 Tryz.f117.ntmps [.rol false 99 N (tng t),.int .i64 x],[],true⟩).map fun s=>(Exit.normal,s)))=(true):=by kernel_rfl
theorem em_one (N:Nat) (t:Nat→Nod) (i:Int):resX (cutR [0,5] 0 (exec Tryz.prog (emC true false) 60 0 (inner (inner (nthC 2 emB))) (emS N t i)))=some (.normal,(emS N t (IntKind.i64.wrap (i+2))).t,[]):=by kernel_rfl
theorem em_one' (N:Nat) (t:Nat→Nod) (i:Int):obX (cutR [0,5] 0 (exec Tryz.prog (emC true false) 60 0 (inner (inner (nthC 2 emB))) (emS N t i)))=(andT (andT (andT (andT true (decide (i<((N:Nat):Int)))) (inB i N)) (true&&(decide (i.toNat<N)&&true))) !(t i.toNat).1):=by kernel_rfl
theorem em_out (N:Nat) (t:Nat→Nod) (i:Int):resX (cutR [4] 0 (exec Tryz.prog (emC true true) 60 0 (inner (inner (nthC 2 emB))) (emS N t i)))=some (.ret,(emF false).t,[]):=by kernel_rfl
theorem em_out' (N:Nat) (t:Nat→Nod) (i:Int):obX (cutR [4] 0 (exec Tryz.prog (emC true true) 60 0 (inner (inner (nthC 2 emB))) (emS N t i)))=(andT (andT (andT (andT true (decide (i<((N:Nat):Int)))) (inB i N)) (true&&(decide (i.toNat<N)&&true))) (t i.toNat).1):=by kernel_rfl
theorem em_end (N:Nat) (t:Nat→Nod) (i:Int):resX (cutR [] 0 (exec Tryz.prog (emC false true) 60 0 (inner (inner (nthC 2 emB))) (emS N t i)))=some (.exit 0,slotsOf 19 [],[]):=by kernel_rfl
theorem em_end' (N:Nat) (t:Nat→Nod) (i:Int):obX (cutR [] 0 (exec Tryz.prog (emC false true) 60 0 (inner (inner (nthC 2 emB))) (emS N t i)))=(andT true !decide (i<((N:Nat):Int))):=by kernel_rfl
def emptyB (N:Nat) (t:Nat→Nod) (fr:Nat):Bool:=(List.range ((N+1-2*fr)/2)).all fun j=>!(t (2*fr+2*j)).used
theorem empty_fn {N fr:Nat} {t:Nat→Nod} (h:N≤274877906944) (hf:fr≤274877906944):FnTr Tryz.prog 117 [.rol false 99 N (tng t),.int .i64 fr] [] (.bool (emptyB N t fr)) []:=by
 have key:=FnTr.scan (P:=Tryz.prog) (args:=[.rol false 99 N (tng t),.int .i64 fr]) (h:=[]) (h':=[]) Tryz.func117 rfl 2 0 (fun j:Nat=>emS N t ((2*fr+2*j:Nat):Int)) (fun j=>!(t (2*fr+2*j)).used) ((N+1-2*fr)/2)
  (fun x s' g=>TrL.itemsX (emC_ok true true) 60 2 _ 0 (by simp) (s1:=emS N t ((2*fr+2*0:Nat):Int)) _ (by have:=em_head N t fr;rw [wrapI (by omega) (by omega)] at this;rw [show ((2*fr+2*0:Nat):Int)=2*(fr:Int) by omega];exact this) (em_head' N t fr) rfl (by decide) rfl g) (by decide) (by kernel_rfl)
  (fun j hj hb _=>?_) (fun i=>emF false) (fun i=>[.bool false]) (fun j hj hb _=>⟨?_,rfl,rfl⟩) (sE:=⟨slotsOf 19 [],[],true⟩) (sE':=emF true) (vE:=[.bool true]) (xE:=.ret) (fun _=>?_) (fun _=>⟨?_,.inl rfl,rfl,rfl⟩)
 ·rw [oneOf_scan (g:=SV.bool) (vF:=fun _:Nat=>false) (vE:=true)] at key
  have hv:scanV (fun j=>!(t (2*fr+2*j)).used) ((N+1-2*fr)/2) (fun _=>false) true=emptyB N t fr:=by
   unfold scanV emptyB;rw [←firstN_all];cases firstN _ _<;>rfl
  rw [hv] at key;exact key
 ·have e:=em_one N t ((2*fr+2*j:Nat):Int)
  rw [wrapI (by omega) (by omega)] at e
  refine Tr.cutX (emC_ok true false) 60 _ 0 (Nat.le_refl _) (s':=emS N t ((2*fr+2*(j+1):Nat):Int)) _ (by rw [show ((2*fr+2*(j+1):Nat):Int)=((2*fr+2*j:Nat):Int)+2 by omega];exact e) (em_one' N t _) ?_
  rw [Int.toNat_natCast,ltN (by omega),inBN (by omega),decide_eq_true (show 2*fr+2*j<N by omega)]
  show andT true (!(t (2*fr+2*j)).used)=true
  rw [hb];rfl
 ·refine Tr.cutX (emC_ok true true) 60 _ 0 (Nat.le_refl _) (s':=emF false) _ (em_out N t _) (em_out' N t _) ?_
  rw [Int.toNat_natCast,ltN (by omega),inBN (by omega),decide_eq_true (show 2*fr+2*j<N by omega)]
  show andT true (t (2*fr+2*j)).used=true
  rw [show (t (2*fr+2*j)).used=true by simpa using hb];rfl
 ·refine Tr.cutX (emC_ok false true) 60 _ 0 (Nat.le_refl _) (s':=⟨slotsOf 19 [],[],true⟩) _ (em_end N t _) (em_end' N t _) ?_
  rw [nltN (by omega)];rfl
 ·exact TrL.rest (emC_ok true true) 60 (by kernel_rfl) rfl
end Go.Proofs.YthlnlcijnoadcaaGreatDoor.Tr
end
section
namespace Go.Proofs.YthlnlcijnoadcaaGreatDoor.Tr
open Go Go.Sy
def upV (n x:Int):Nat→Int
 |0=>parV x n
 |j+1=>parV (upV n x j) n
noncomputable def paInl:List (FuncId×Func):=[(103,Tryz.f103)]
theorem paInl_ok:InlOK Tryz.prog paInl:=InlOK.cons Tryz.func103 (by decide) InlOK.nil
def btT (a b c d:Bool):Nat→Option Bool:=fun i=>if i=17 then some a else if i=22 then some b else if i=31 then some c else if i=9 then some d else none
noncomputable def btC (a b c d:Bool):Ctr:=mk (P:=Tryz.prog) [parentE,containsE] paInl (btT a b c d)
theorem btC_ok (a b c d:Bool):CtrSound Tryz.prog (btC a b c d):=mk_sound _ paInl_ok _ _
noncomputable def btB:Code:=bodyOf Tryz.f163
noncomputable def ptB:Code:=bodyOf Tryz.f146
section
variable (N:Nat) (t:Nat→Nod) (x i n:Int)
noncomputable def btH (r:Bool):List Blk:=[.b [.rol false 99 N (tng t)],.b [.int .i64 x],.b [.int .i64 i],.b [.bool r],.b [.int .i64 (IntKind.i64.wrap (2*i))],.b [.int .i64 n]]
noncomputable def btS:St:=⟨slotsOf 33 [(4,.ptr 0 0 0),(5,.ptr 1 0 0),(6,.ptr 2 0 0),(8,.ptr 3 0 0),(13,.fn (.func 146) [] [.ptr 4 0 0,.ptr 5 0 0])],btH N t x i n false,true⟩
noncomputable def btG (r:Bool) (st:LoopState) (pd:Option Code) (l:Nat):List Blk:=btH N t x i n r++[.g (some {rfL (nthC 2 btB) (btS N t x i n).t l with st:=st,pend:=pd})]
noncomputable def itS (r:Bool) (st:LoopState) (pd:Option Code) (l:Nat) (p:Int):St:=⟨slotsOf 17 [(0,.fn (.yield l) [] []),(2,.ptr 5 0 0),(4,.int .i64 p)],btG N t x i n r st pd l,true⟩
end
theorem bt_head (N:Nat) (t:Nat→Nod) (x i n:Int):resX (cutR [4,5,6,8,13] 6 ((execL Tryz.prog (btC true true true true) 60 0 2 (atoms btB) ⟨slots0 Tryz.f163.ntmps [.rol false 99 N (tng t),.int .i64 x,.int .i64 i,.int .i64 n],[],true⟩).map fun s=>(Exit.normal,s)))=some (.normal,(btS N t x i n).t,(btS N t x i n).h):=by kernel_rfl
theorem bt_head' (N:Nat) (t:Nat→Nod) (x i n:Int):obX (cutR [4,5,6,8,13] 6 ((execL Tryz.prog (btC true true true true) 60 0 2 (atoms btB) ⟨slots0 Tryz.f163.ntmps [.rol false 99 N (tng t),.int .i64 x,.int .i64 i,.int .i64 n],[],true⟩).map fun s=>(Exit.normal,s)))=(true):=by kernel_rfl
theorem it_head (N:Nat) (t:Nat→Nod) (x i n:Int) (l:Nat):resX (cutR [0,2,4] 7 ((execL Tryz.prog (btC true true true true) 60 7 1 (atoms ptB) ⟨slots0 Tryz.f146.ntmps [.fn (.yield l) [] [],.ptr 4 0 0,.ptr 5 0 0],btG N t x i n false .ready none l,true⟩).map fun s=>(Exit.normal,s)))=some (.normal,(itS N t x i n false .ready none l (parV (IntKind.i64.wrap (2*i)) n)).t,btG N t x i n false .ready none l):=by kernel_rfl
theorem it_head' (N:Nat) (t:Nat→Nod) (x i n:Int) (l:Nat):obX (cutR [0,2,4] 7 ((execL Tryz.prog (btC true true true true) 60 7 1 (atoms ptB) ⟨slots0 Tryz.f146.ntmps [.fn (.yield l) [] [],.ptr 4 0 0,.ptr 5 0 0],btG N t x i n false .ready none l,true⟩).map fun s=>(Exit.normal,s)))=(andT true (andT true (nodeB (IntKind.i64.wrap (2*i)) n))):=by kernel_rfl
theorem it_x (N:Nat) (t:Nat→Nod) (x i n:Int) (l:Nat) (p:Int):resX (cutR [0,2,4] 7 (exec Tryz.prog (btC true true true true) 60 7 (inner (inner (nthC 1 ptB))) (itS N t x i n false .ready none l p)))=some (.ret,(itS N t x i n true .done (some .ret) l p).t,btG N t x i n true .done (some .ret) l):=by kernel_rfl
theorem it_x' (N:Nat) (t:Nat→Nod) (x i n:Int) (l:Nat) (p:Int):obX (cutR [0,2,4] 7 (exec Tryz.prog (btC true true true true) 60 7 (inner (inner (nthC 1 ptB))) (itS N t x i n false .ready none l p)))=(andT (andT true (decide (p≥0))) (andT (andT (andT (decide (l=l)) (decide (l=l))) (p==x)) (decide (l=l)))):=by kernel_rfl
theorem it_no (N:Nat) (t:Nat→Nod) (x i n:Int) (l:Nat) (p:Int):resX (cutR [0,2,4] 7 (exec Tryz.prog (btC false true true true) 60 7 (inner (inner (nthC 1 ptB))) (itS N t x i n false .ready none l p)))=some (.ret,(itS N t x i n false .done (some .ret) l p).t,btG N t x i n false .done (some .ret) l):=by kernel_rfl
theorem it_no' (N:Nat) (t:Nat→Nod) (x i n:Int) (l:Nat) (p:Int):obX (cutR [0,2,4] 7 (exec Tryz.prog (btC false true true true) 60 7 (inner (inner (nthC 1 ptB))) (itS N t x i n false .ready none l p)))=(andT (andT true (decide (p≥0))) (andT (andT (andT (andT (andT (andT (andT (andT (andT (andT (decide (l=l)) (decide (l=l))) !p==x) (inB p N)) (true&&(decide (p.toNat<N)&&true))) (t p.toNat).1) (inB p N)) (true&&(decide (p.toNat<N)&&true))) (andT true (decide ((t p.toNat).un.length≤274877906944)))) !hasB (t p.toNat).un i) (decide (l=l)))):=by kernel_rfl
theorem it_un (N:Nat) (t:Nat→Nod) (x i n:Int) (l:Nat) (p:Int):resX (cutR [0,2,4] 7 (exec Tryz.prog (btC false false true true) 60 7 (inner (inner (nthC 1 ptB))) (itS N t x i n false .ready none l p)))=some (.normal,(itS N t x i n false .ready none l (parV p n)).t,btG N t x i n false .ready none l):=by kernel_rfl
theorem it_un' (N:Nat) (t:Nat→Nod) (x i n:Int) (l:Nat) (p:Int):obX (cutR [0,2,4] 7 (exec Tryz.prog (btC false false true true) 60 7 (inner (inner (nthC 1 ptB))) (itS N t x i n false .ready none l p)))=(andT (andT (andT true (decide (p≥0))) (andT (andT (andT (andT (andT (andT (decide (l=l)) (decide (l=l))) !p==x) (inB p N)) (true&&(decide (p.toNat<N)&&true))) !(t p.toNat).1) (decide (l=l)))) (andT true (nodeB p n))):=by kernel_rfl
theorem it_has (N:Nat) (t:Nat→Nod) (x i n:Int) (l:Nat) (p:Int):resX (cutR [0,2,4] 7 (exec Tryz.prog (btC false true false true) 60 7 (inner (inner (nthC 1 ptB))) (itS N t x i n false .ready none l p)))=some (.normal,(itS N t x i n false .ready none l (parV p n)).t,btG N t x i n false .ready none l):=by kernel_rfl
theorem it_has' (N:Nat) (t:Nat→Nod) (x i n:Int) (l:Nat) (p:Int):obX (cutR [0,2,4] 7 (exec Tryz.prog (btC false true false true) 60 7 (inner (inner (nthC 1 ptB))) (itS N t x i n false .ready none l p)))=(andT (andT (andT true (decide (p≥0))) (andT (andT (andT (andT (andT (andT (andT (andT (andT (andT (decide (l=l)) (decide (l=l))) !p==x) (inB p N)) (true&&(decide (p.toNat<N)&&true))) (t p.toNat).1) (inB p N)) (true&&(decide (p.toNat<N)&&true))) (andT true (decide ((t p.toNat).un.length≤274877906944)))) !!hasB (t p.toNat).un i) (decide (l=l)))) (andT true (nodeB p n))):=by kernel_rfl
theorem it_end (N:Nat) (t:Nat→Nod) (x i n:Int) (l:Nat) (p:Int):resX (cutR [0,2,4] 7 (exec Tryz.prog (btC false true false false) 60 7 (inner (inner (nthC 1 ptB))) (itS N t x i n false .ready none l p)))=some (.exit 0,(itS N t x i n false .ready none l p).t,btG N t x i n false .ready none l):=by kernel_rfl
theorem it_end' (N:Nat) (t:Nat→Nod) (x i n:Int) (l:Nat) (p:Int):obX (cutR [0,2,4] 7 (exec Tryz.prog (btC false true false false) 60 7 (inner (inner (nthC 1 ptB))) (itS N t x i n false .ready none l p)))=(andT true !decide (p≥0)):=by kernel_rfl
def lgN:Nat→Nat
 |1=>0
 |2=>1
 |4=>2
 |8=>3
 |16=>4
 |_=>5
theorem up_all:(sizes.all fun n=>(List.range n).all fun i=>((List.range (lgN n)).all fun j=>nodeB (upV n ((2*i:Nat):Int) j) n&&decide (0≤upV n ((2*i:Nat):Int) j))&&decide (upV n ((2*i:Nat):Int) (lgN n)=-1)&&nodeB ((2*i:Nat):Int) n)=true:=by decide+kernel
theorem up_ok {n i:Nat} (hn:n∈sizes) (hi:i<n):(∀j,j<lgN n→nodeB (upV n ((2*i:Nat):Int) j) n=true∧0≤upV n ((2*i:Nat):Int) j)∧upV n ((2*i:Nat):Int) (lgN n)=-1∧nodeB ((2*i:Nat):Int) n=true:=by
 have h:=List.all_eq_true.1 (List.all_eq_true.1 up_all n hn) i (List.mem_range.2 hi)
 simp only [Bool.and_eq_true,decide_eq_true_eq,List.all_eq_true,List.mem_range] at h
 exact ⟨h.1.1,h.1.2,h.2⟩
theorem sizes_le {n:Nat} (hn:n∈sizes):1≤n∧n≤32:=by
 simp only [sizes,List.mem_cons,List.not_mem_nil,or_false] at hn
 omega
theorem nodeB_lt {p:Int} {n:Nat} (h:nodeB p n=true):0≤p∧p<((2*n-1:Nat):Int):=by
 obtain ⟨m,_,y,h1,rfl,h2⟩:=nodeB_iff h
 omega
def okJ (t:Nat→Nod) (x i n:Int) (j:Nat):Bool:=!(upV n (2*i) j==x)&&!((t (upV n (2*i) j).toNat).used&&!hasB (t (upV n (2*i) j).toNat).un i)
def btwB (t:Nat→Nod) (x:Int) (i n:Nat):Bool:=scanV (okJ t x i n) (lgN n) (fun j=>upV n (2*(i:Int)) j==x) false
section
variable {N:Nat} {t:Nat→Nod} {x:Int} {i n:Nat}
theorem it_step (hn:n∈sizes) (hi:i<n) (hN:N=2*n-1) (hu:∀k,k<N→(t k).un.length≤274877906944) (l:Nat) {j:Nat} (hj:j<lgN n) (hb:okJ t x i n j=true):
  Tr Tryz.prog none 7 (inner (inner (nthC 1 ptB))) (itS N t x i n false .ready none l (upV n (2*(i:Int)) j)) .normal (itS N t x i n false .ready none l (upV n (2*(i:Int)) (j+1))):=by
 obtain ⟨h1,_,_⟩:=up_ok hn hi
 obtain ⟨g1,g2⟩:=h1 j hj
 rw [show ((2*i:Nat):Int)=2*(i:Int) by omega] at g1 g2
 obtain ⟨g3,g4⟩:=nodeB_lt g1
 have hlt:(upV n (2*(i:Int)) j).toNat<N:=by omega
 unfold okJ at hb
 simp only [Bool.and_eq_true] at hb
 obtain ⟨hx,hub⟩:=hb
 cases hus:(t (upV n (2*(i:Int)) j).toNat).used with
 |false=>
  exact Tr.cutX (btC_ok false false true true) 60 _ 7 (Nat.le_refl _) (s':=itS N t x i n false .ready none l (parV (upV n (2*(i:Int)) j) n)) _ (it_un N t x i n l _) (it_un' N t x i n l _) (by
   rw [decide_eq_true g2,inBt g3 (by omega),decide_eq_true hlt,show (t (upV n (2*(i:Int)) j).toNat).1=false from hus,g1,hx,decide_eq_true rfl];rfl)
 |true=>
  rw [hus] at hub
  have hub':(!!hasB (t (upV n (2*(i:Int)) j).toNat).un i)=true:=by simpa using hub
  exact Tr.cutX (btC_ok false true false true) 60 _ 7 (Nat.le_refl _) (s':=itS N t x i n false .ready none l (parV (upV n (2*(i:Int)) j) n)) _ (it_has N t x i n l _) (it_has' N t x i n l _) (by
   rw [decide_eq_true g2,inBt g3 (by omega),decide_eq_true hlt,show (t (upV n (2*(i:Int)) j).toNat).1=true from hus,g1,hx,decide_eq_true rfl,hub',decide_eq_true (hu _ hlt)];rfl)
theorem it_first (hn:n∈sizes) (hi:i<n) (l:Nat):∀y s',TrL Tryz.prog none (btG N t x i n false .ready none l).length ((atoms ptB).drop 1) (itS N t x i n false .ready none l (upV n (2*(i:Int)) 0)) y s'→
  TrL Tryz.prog none (btG N t x i n false .ready none l).length (atoms ptB) ⟨slots0 Tryz.f146.ntmps [.fn (.yield l) [] [],.ptr 4 0 0,.ptr 5 0 0],btG N t x i n false .ready none l,true⟩ y s':=fun y s' g=>by
 have h:=sizes_le hn
 have e:=it_head N t x i n l
 have e':=it_head' N t x i n l
 rw [wrapI (by omega) (by omega)] at e e'
 exact TrL.itemsX (btC_ok true true true true) 60 1 _ 7 (Nat.le_refl 7) _ e e' (by have:=(up_ok hn hi).2.2;rw [show ((2*i:Nat):Int)=2*(i:Int) by omega] at this;rw [this];rfl) (by decide) rfl g
theorem it_all (hn:n∈sizes) (hi:i<n) (hN:N=2*n-1) (hu:∀k,k<N→(t k).un.length≤274877906944) (l:Nat) (ha:∀j,j<lgN n→okJ t x i n j=true):
  FnTr Tryz.prog 146 [.fn (.yield l) [] [],.ptr 4 0 0,.ptr 5 0 0] (btG N t x i n false .ready none l) (.tup []) (btG N t x i n false .ready none l):=by
 refine FnTr.toEnd (h:=btG N t x i n false .ready none l) Tryz.func146 rfl 1 0 (fun j=>itS N t x i n false .ready none l (upV n (2*(i:Int)) j)) (lgN n) (it_first hn hi l) (by decide) (by kernel_rfl)
  (fun j hj=>it_step hn hi hN hu l hj (ha j hj)) (sE:=itS N t x i n false .ready none l (upV n (2*(i:Int)) (lgN n))) (s':=itS N t x i n false .ready none l (upV n (2*(i:Int)) (lgN n))) (x:=.normal) (v:=[]) ?_ ⟨rfl,rfl⟩ (.inr rfl) rfl
 have h1:=(up_ok hn hi).2.1
 rw [show ((2*i:Nat):Int)=2*(i:Int) by omega] at h1
 exact Tr.cutX (btC_ok false true false false) 60 _ 7 (Nat.le_refl _) _ (it_end N t x i n l _) (it_end' N t x i n l _) (by rw [h1];rfl)
theorem it_at (hn:n∈sizes) (hi:i<n) (hN:N=2*n-1) (hu:∀k,k<N→(t k).un.length≤274877906944) (l:Nat) {j:Nat} (hj:j<lgN n) (hb:okJ t x i n j=false) (ha:∀k,k<j→okJ t x i n k=true):
  FnTr Tryz.prog 146 [.fn (.yield l) [] [],.ptr 4 0 0,.ptr 5 0 0] (btG N t x i n false .ready none l) (.tup []) (btG N t x i n (upV n (2*(i:Int)) j==x) .done (some .ret) l):=by
 obtain ⟨h1,_,_⟩:=up_ok hn hi
 obtain ⟨g1,g2⟩:=h1 j hj
 rw [show ((2*i:Nat):Int)=2*(i:Int) by omega] at g1 g2
 obtain ⟨g3,g4⟩:=nodeB_lt g1
 have hlt:(upV n (2*(i:Int)) j).toNat<N:=by omega
 refine FnTr.leaveAt (h:=btG N t x i n false .ready none l) Tryz.func146 rfl 1 0 (fun j=>itS N t x i n false .ready none l (upV n (2*(i:Int)) j)) j (it_first hn hi l) (by decide) (by kernel_rfl)
  (fun k hk=>it_step hn hi hN hu l (by omega) (ha k hk)) (sF:=itS N t x i n (upV n (2*(i:Int)) j==x) .done (some .ret) l (upV n (2*(i:Int)) j)) (vF:=[]) ?_ rfl
 unfold okJ at hb
 cases hx:(upV n (2*(i:Int)) j==x) with
 |true=>
  exact Tr.cutX (btC_ok true true true true) 60 _ 7 (Nat.le_refl _) _ (it_x N t x i n l _) (it_x' N t x i n l _) (by rw [decide_eq_true g2,hx,decide_eq_true rfl];rfl)
 |false=>
  rw [hx] at hb
  have hb':(t (upV n (2*(i:Int)) j).toNat).used=true∧hasB (t (upV n (2*(i:Int)) j).toNat).un i=false:=by simpa using hb
  exact Tr.cutX (btC_ok false true true true) 60 _ 7 (Nat.le_refl _) _ (it_no N t x i n l _) (it_no' N t x i n l _) (by
   rw [decide_eq_true g2,inBt g3 (by omega),decide_eq_true hlt,show (t (upV n (2*(i:Int)) j).toNat).1=true from hb'.1,hx,decide_eq_true rfl,hb'.2,decide_eq_true (hu _ hlt)];rfl)
theorem between_fn (hn:n∈sizes) (hi:i<n) (hN:N=2*n-1) (hu:∀k,k<N→(t k).un.length≤274877906944):
  FnTr Tryz.prog 163 [.rol false 99 N (tng t),.int .i64 x,.int .i64 i,.int .i64 n] [] (.bool (btwB t x i n)) []:=by
 unfold btwB scanV
 cases hq:firstN (okJ t x i n) (lgN n) with
 |none=>
  have ha:=firstN_none hq
  refine FnTr.sel (v:=.bool false) (h1:=btH N t x i n false++[.gap]) [] ?_ rfl
  refine FnTr.rest (btC_ok true true true true) 60 3 Tryz.func163 rfl (fun s' y h=>?_) (s:=⟨(btS N t x i n).t,btH N t x i n false++[.gap],true⟩) (p:=true) (by kernel_rfl) rfl
  refine TrL.itemsX (btC_ok true true true true) 60 2 _ 6 (Nat.zero_le _) _ (bt_head N t x i n) (bt_head' N t x i n) rfl (by decide) rfl ?_
  refine TrL.item 2 (by decide) ?_ h
  exact Tr.rangeB 0 (by kernel_rfl) (f:=146) (first:=[]) (capt:=[.ptr 4 0 0,.ptr 5 0 0]) true Tryz.func146 (by decide) rfl (by kernel_rfl) (fun l=>it_all hn hi hN hu l ha)
   (fun l=>⟨_,rfl,rfl,by simp [rfL],rfl⟩) (fun l=>rfl)
 |some j=>
  obtain ⟨hj,hb,ha⟩:=find_range hq
  refine FnTr.sel (v:=.bool (upV n (2*(i:Int)) j==x)) (h1:=btH N t x i n (upV n (2*(i:Int)) j==x)++[.gap]) [] ?_ rfl
  refine FnTr.mk Tryz.func163 rfl (x:=.ret) (s:=⟨(btS N t x i n).t,btH N t x i n (upV n (2*(i:Int)) j==x)++[.gap],true⟩) (vs:=[.bool (upV n (2*(i:Int)) j==x)]) ?_ (.inl rfl) (by kernel_rfl)
  refine TrL.itemsX (btC_ok true true true true) 60 2 _ 6 (Nat.zero_le _) _ (bt_head N t x i n) (bt_head' N t x i n) rfl (by decide) rfl ?_
  refine TrL.leave 2 (by decide) (by simp) ?_
  show Tr Tryz.prog none 0 (.block 0 (inner (nthC 2 btB))) _ _ _
  refine Tr.block_pass ?_ (by simp)
  exact Tr.range (q:=some .ret) true Tryz.func146 (by decide) rfl (by kernel_rfl) (first:=[]) (fun l=>it_at hn hi hN hu l hj hb ha)
   (fun l=>⟨_,rfl,rfl,by simp [rfL],rfl⟩) (fun l=>rfl) rfl
end
end Go.Proofs.YthlnlcijnoadcaaGreatDoor.Tr
end
