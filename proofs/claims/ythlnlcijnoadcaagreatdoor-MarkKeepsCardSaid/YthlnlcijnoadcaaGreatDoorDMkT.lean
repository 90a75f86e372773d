/- This file holds the texts MkM, MkS, MkQ, MkT, a section each. No conditions beyond those in the theorems. -/
import Derived.Test.YthlnlcijnoadcaaGreatDoorDMkL
import Derived.Test.YthlnlcijnoadcaaGreatDoorDMkB
import Derived.Test.YthlnlcijnoadcaaGreatDoorDTtH
set_option linter.all false
set_option maxRecDepth 100000
section
namespace Go.Proofs.YthlnlcijnoadcaaGreatDoor.Mk
open Go Go.Sy Tr Wi S2
open Q2 (shortQ shortDRE By shortW_eq)
def mkQ (N:Nat) (t:Nat→Nod) (x c:Int):Bool:=dgQ N t x&&(decide (0≤c)&&(c==leftV x||c==rightV x))
noncomputable def markW (t:Nat→Nod) (x s:Int):List Int:=shortW [[3],(t x.toNat).key,(t x.toNat).par,digV t (t x.toNat).un s].flatten
noncomputable def mkL (N:Nat) (t:Nat→Nod) (x c:Int):List Int:=bif mkQ N t x c then markW t x (leftV x+rightV x-c) else z32
section
variable {N:Nat} {t:Nat→Nod} {x c:Int}
theorem mkQ_ok (hT:TOK N t) (h:mkQ N t x c=true):checkB N t=true∧0≤x∧x<N∧x<64∧0≤leftV x∧leftV x<N∧0≤rightV x∧rightV x<N∧(N:Int)≤71∧(c=leftV x∨c=rightV x)∧leftV x≠rightV x:=by
 unfold mkQ dgQ at h
 simp only [Bool.and_eq_true,Bool.or_eq_true,decide_eq_true_eq,beq_iff_eq] at h
 obtain ⟨⟨⟨h0,h1⟩,hc⟩,h2,h3⟩:=h
 obtain ⟨n,hn,_,hN,_⟩:=check_parts hT hc
 have hs:=sizes_le hn
 obtain ⟨y,rfl⟩:=Int.eq_ofNat_of_zero_le h0
 have hle:=hT.le
 cases hl:lvN 7 y with
 |zero=>
  obtain ⟨a,b⟩:=kid_zero hn (show y<2*n-1 by omega) hl
  omega
 |succ k=>
  obtain ⟨a1,a2,a3,a4,_,_,a7⟩:=kid_succ hn (show y<2*n-1 by omega) hl
  have hp:1≤2^k:=Nat.one_le_two_pow
  refine ⟨hc,h0,h1,by omega,by omega,by omega,by omega,by omega,by omega,h3,by omega⟩
end
noncomputable def mrC (l:List (Nat×Bool)):Ctr:=mk (P:=Tryz.prog) [childrenE,digE 8 (digest_fn 8),shortE] [] (uT l)
theorem mrC_ok (l:List (Nat×Bool)):CtrSound Tryz.prog (mrC l):=mk_sound _ InlOK.nil _ _
theorem mr_a (N:Nat) (t:Nat→Nod) (x c:Int):(callS Tryz.prog (mrC []) 60 Tryz.f83 [.rol false 99 N (tng t),.int .i64 x,.int .i64 c] []).map (fun x=>(x.1,x.2.2))=some (.agg [.ints .u8 32 (markW t x (IntKind.i64.wrap (IntKind.i64.wrap (leftV x+rightV x)-c)))],andT (andT (andT (andT (andT (andT (andT (andT (andT (andT true (andT true (decide (0≤x)&&decide (x<64)))) (inB x N)) (true&&(decide (x.toNat<N)&&true))) (andT true ((okT N fun i=>coolL (tng t i))&&decide (N≤71)&&digOK N (treeOf fun i=>coolL (tng t i)) (t x.toNat).un (IntKind.i64.wrap (IntKind.i64.wrap (leftV x+rightV x)-c)) 8))) (inB x N)) (true&&(decide (x.toNat<N)&&true&&true&&decide ((t x.toNat).key.length=32)))) (inB x N)) (true&&(decide (x.toNat<N)&&true&&true&&decide ((t x.toNat).par.length=32)))) (andT true (decide (0+0+32≤psize ([]++[SV.ints IntKind.u8 32 (digV (treeOf fun i=>coolL (tng t i)) (t x.toNat).un (IntKind.i64.wrap (IntKind.i64.wrap (leftV x+rightV x)-c)))]++[]))))) (andT (andT true (andT (andT true (decide ((digV (treeOf fun i=>coolL (tng t i)) (t x.toNat).un (IntKind.i64.wrap (IntKind.i64.wrap (leftV x+rightV x)-c))).length=32)&&true)) (decide ((digV (treeOf fun i=>coolL (tng t i)) (t x.toNat).un (IntKind.i64.wrap (IntKind.i64.wrap (leftV x+rightV x)-c))).length=32)))) (decide (([(List.replicate 1 0).set 0 3,(t x.toNat).key,(t x.toNat).par,digV (treeOf fun i=>coolL (tng t i)) (t x.toNat).un (IntKind.i64.wrap (IntKind.i64.wrap (leftV x+rightV x)-c))],andT (andT (andT (andT true (decide ((digV (treeOf fun i=>coolL (tng t i)) (t x.toNat).un (IntKind.i64.wrap (IntKind.i64.wrap (leftV x+rightV x)-c))).length=32)&&(decide ((32)≤32)&&decide ((0+0)=0)))) (decide ((digV (treeOf fun i=>coolL (tng t i)) (t x.toNat).un (IntKind.i64.wrap (IntKind.i64.wrap (leftV x+rightV x)-c))).length=32))) (decide (((List.replicate 1 0).set 0 3).length=1)&&(decide (1≤1)&&decide (0=0)))) (decide (((List.replicate 1 0).set 0 3).length=1))).fst.flatten.length<274877900000)&&decide (([(List.replicate 1 0).set 0 3,(t x.toNat).key,(t x.toNat).par,digV (treeOf fun i=>coolL (tng t i)) (t x.toNat).un (IntKind.i64.wrap (IntKind.i64.wrap (leftV x+rightV x)-c))],andT (andT (andT (andT true (decide ((digV (treeOf fun i=>coolL (tng t i)) (t x.toNat).un (IntKind.i64.wrap (IntKind.i64.wrap (leftV x+rightV x)-c))).length=32)&&(decide ((32)≤32)&&decide ((0+0)=0)))) (decide ((digV (treeOf fun i=>coolL (tng t i)) (t x.toNat).un (IntKind.i64.wrap (IntKind.i64.wrap (leftV x+rightV x)-c))).length=32))) (decide (((List.replicate 1 0).set 0 3).length=1)&&(decide (1≤1)&&decide (0=0)))) (decide (((List.replicate 1 0).set 0 3).length=1))).fst.length≤274877906944)))):=by kernel_rfl
section
variable {N:Nat} {t:Nat→Nod} {x c:Int}
theorem mark_fn (hT:TOK N t) (h:mkQ N t x c=true):FnTr Tryz.prog 83 [.rol false 99 N (tng t),.int .i64 x,.int .i64 c] [] (.agg [.ints .u8 32 (markW t x (leftV x+rightV x-c))]) []:=by
 obtain ⟨hc,h0,h1,h2,h3,h4,h5,h6,h7,h8,h9⟩:=mkQ_ok hT h
 have hok:okT N (fun i=>coolL (tng t i))=true:=okT_tng hT
 have ht:(treeOf fun i=>coolL (tng t i))=t:=rfl
 have e:=mr_a N t x c
 rw [wrapI (n:=leftV x+rightV x) (by omega) (by omega),wrapI (n:=leftV x+rightV x-c) (by omega) (by omega)] at e
 have hi:x.toNat<N:=by omega
 have hw:=hT.un x.toNat hi
 have hd:=check_dig hT hc hw (x:=leftV x+rightV x-c) (by omega) (by omega)
 have hin:inB x N=true:=by
  obtain ⟨y,rfl⟩:=Int.eq_ofNat_of_zero_le h0
  exact inBN (by omega)
 have l1:=hT.key x.toNat hi
 have l2:=hT.par x.toNat hi
 have l3:=digV_len t (t x.toNat).un (leftV x+rightV x-c)
 refine call0 (mrC_ok []) 60 Tryz.func83 e ?_ rfl
 rw [ht,hok,hin,hd,decide_eq_true hi,decide_eq_true hT.le,decide_eq_true h0,decide_eq_true h2]
 simp [andT_iff,l1,l2,l3,psize,psz]
end
noncomputable def markE:Entry Tryz.prog:=.val 83 _ Tryz.func83 (by decide) rfl true 0 (fun vs=>match vs with
 | [.rol false 99 N g,.int .i64 x,.int .i64 c]=>some (.agg [.ints .u8 32 (markW (treeOf g) x (leftV x+rightV x-c))],[],okT N g&&decide (N≤71)&&mkQ N (treeOf g) x c)
 |_=>none) fun vs v new e=>by
 split at e
 ·simp only [Option.some.injEq,Prod.mk.injEq,Bool.and_eq_true,decide_eq_true_eq] at e
  obtain ⟨rfl,rfl,⟨h1,h2⟩,h3⟩:=e
  exact FnTr.conv (mark_fn (TOK.of h1 h2) h3) ⟨VE.tree h1,VE.refl _,VE.refl _,trivial⟩ trivial (VE.refl _) trivial
 ·cases e
noncomputable def mmC (b:Bool) (l:List (Nat×Bool)):Ctr:=mk (P:=Tryz.prog) [checkE b,childrenE,markE] [] (uT l)
theorem mmC_ok (b:Bool) (l:List (Nat×Bool)):CtrSound Tryz.prog (mmC b l):=mk_sound _ InlOK.nil _ _
abbrev noMark:SV:=.tup [.agg [.ints .u8 32 z32],.bool false]
theorem mm_a (N:Nat) (t:Nat→Nod) (x c:Int):(callS Tryz.prog (mmC true [(11,true)]) 60 Tryz.f40 [.rol false 99 N (tng t),.int .i64 x,.int .i64 c] []).map (fun x=>(x.1,x.2.2))=some (noMark,andT true (decide (x<0))):=by kernel_rfl
theorem mm_b (N:Nat) (t:Nat→Nod) (x c:Int):(callS Tryz.prog (mmC true [(11,false),(16,true)]) 60 Tryz.f40 [.rol false 99 N (tng t),.int .i64 x,.int .i64 c] []).map (fun x=>(x.1,x.2.2))=some (noMark,andT (andT true !decide (x<0)) (decide (x≥((N:Nat):Int)))):=by kernel_rfl
theorem mm_c (N:Nat) (t:Nat→Nod) (x c:Int):(callS Tryz.prog (mmC false [(11,false),(16,false)]) 60 Tryz.f40 [.rol false 99 N (tng t),.int .i64 x,.int .i64 c] []).map (fun x=>(x.1,x.2.2))=some (noMark,andT (andT (andT true !decide (x<0)) !decide (x≥((N:Nat):Int))) (andT true ((okT N fun i=>coolL (tng t i))&&decide (N≤71)&&checkB N (treeOf fun i=>coolL (tng t i))==false))):=by kernel_rfl
theorem mm_d (N:Nat) (t:Nat→Nod) (x c:Int):(callS Tryz.prog (mmC true [(11,false),(16,false),(30,true)]) 60 Tryz.f40 [.rol false 99 N (tng t),.int .i64 x,.int .i64 c] []).map (fun x=>(x.1,x.2.2))=some (noMark,andT (andT (andT (andT (andT true !decide (x<0)) !decide (x≥((N:Nat):Int))) (andT true ((okT N fun i=>coolL (tng t i))&&decide (N≤71)&&checkB N (treeOf fun i=>coolL (tng t i))==true))) (andT true (decide (0≤x)&&decide (x<64)))) (decide (c<0))):=by kernel_rfl
theorem mm_e (N:Nat) (t:Nat→Nod) (x c:Int):(callS Tryz.prog (mmC true [(11,false),(16,false),(30,false),(34,true),(38,true)]) 60 Tryz.f40 [.rol false 99 N (tng t),.int .i64 x,.int .i64 c] []).map (fun x=>(x.1,x.2.2))=some (noMark,andT (andT (andT (andT (andT (andT (andT true !decide (x<0)) !decide (x≥((N:Nat):Int))) (andT true ((okT N fun i=>coolL (tng t i))&&decide (N≤71)&&checkB N (treeOf fun i=>coolL (tng t i))==true))) (andT true (decide (0≤x)&&decide (x<64)))) !decide (c<0)) (c != leftV x)) (c != rightV x)):=by kernel_rfl
theorem mm_f (N:Nat) (t:Nat→Nod) (x c:Int):(callS Tryz.prog (mmC true [(11,false),(16,false),(30,false),(34,false)]) 60 Tryz.f40 [.rol false 99 N (tng t),.int .i64 x,.int .i64 c] []).map (fun x=>(x.1,x.2.2))=some (.tup [.agg [.ints .u8 32 (markW t x (leftV x+rightV x-c))],.bool true],andT (andT (andT (andT (andT (andT (andT true !decide (x<0)) !decide (x≥((N:Nat):Int))) (andT true ((okT N fun i=>coolL (tng t i))&&decide (N≤71)&&checkB N (treeOf fun i=>coolL (tng t i))==true))) (andT true (decide (0≤x)&&decide (x<64)))) !decide (c<0)) !c != leftV x) (andT true ((okT N fun i=>coolL (tng t i))&&decide (N≤71)&&mkQ N (treeOf fun i=>coolL (tng t i)) x c))):=by kernel_rfl
theorem mm_g (N:Nat) (t:Nat→Nod) (x c:Int):(callS Tryz.prog (mmC true [(11,false),(16,false),(30,false),(34,true),(38,false)]) 60 Tryz.f40 [.rol false 99 N (tng t),.int .i64 x,.int .i64 c] []).map (fun x=>(x.1,x.2.2))=some (.tup [.agg [.ints .u8 32 (markW t x (leftV x+rightV x-c))],.bool true],andT (andT (andT (andT (andT (andT (andT (andT true !decide (x<0)) !decide (x≥((N:Nat):Int))) (andT true ((okT N fun i=>coolL (tng t i))&&decide (N≤71)&&checkB N (treeOf fun i=>coolL (tng t i))==true))) (andT true (decide (0≤x)&&decide (x<64)))) !decide (c<0)) (c != leftV x)) !c != rightV x) (andT true ((okT N fun i=>coolL (tng t i))&&decide (N≤71)&&mkQ N (treeOf fun i=>coolL (tng t i)) x c))):=by kernel_rfl
section
variable {N:Nat} {t:Nat→Nod} {x c:Int}
theorem mMark_fn (hT:TOK N t):FnTr Tryz.prog 40 [.rol false 99 N (tng t),.int .i64 x,.int .i64 c] [] (.tup [.agg [.ints .u8 32 (mkL N t x c)],.bool (mkQ N t x c)]) []:=by
 have hok:okT N (fun i=>coolL (tng t i))=true:=okT_tng hT
 have ht:(treeOf fun i=>coolL (tng t i))=t:=rfl
 have no:mkQ N t x c=false→FnTr Tryz.prog 40 [.rol false 99 N (tng t),.int .i64 x,.int .i64 c] [] noMark []→FnTr Tryz.prog 40 [.rol false 99 N (tng t),.int .i64 x,.int .i64 c] [] (.tup [.agg [.ints .u8 32 (mkL N t x c)],.bool (mkQ N t x c)]) []:=fun q g=>by
  unfold mkL;rw [q];exact g
 by_cases h0:x<0
 ·exact no (by unfold mkQ dgQ;rw [decide_eq_false (show ¬0≤x by omega)];rfl) (call0 (mmC_ok _ _) 60 Tryz.func40 (mm_a N t x c) (by rw [decide_eq_true h0];rfl) rfl)
 have n0:=decide_eq_false h0
 by_cases h1:x≥N
 ·exact no (by unfold mkQ dgQ;rw [decide_eq_false (show ¬x<(N:Int) by omega),Bool.and_false];rfl) (call0 (mmC_ok _ _) 60 Tryz.func40 (mm_b N t x c) (by rw [n0,decide_eq_true h1];rfl) rfl)
 have n1:=decide_eq_false h1
 cases hc:checkB N t with
 |false=>exact no (by unfold mkQ dgQ;rw [hc,Bool.and_false];rfl) (call0 (mmC_ok _ _) 60 Tryz.func40 (mm_c N t x c) (by rw [n0,n1,ht,hok,decide_eq_true hT.le,hc];rfl) rfl)
 |true=>
 have hQ:dgQ N t x=true:=by unfold dgQ;rw [hc,decide_eq_true (show 0≤x by omega),decide_eq_true (show x<(N:Int) by omega)];rfl
 have h64:x<64:=by
  obtain ⟨n,hn,_,hN,_⟩:=check_parts hT hc
  have:=sizes_le hn
  omega
 have p0:decide (0≤x)=true:=decide_eq_true (by omega)
 have p1:decide (x<64)=true:=decide_eq_true h64
 by_cases h2:c<0
 ·exact no (by unfold mkQ;rw [decide_eq_false (show ¬0≤c by omega),Bool.false_and,Bool.and_false]) (call0 (mmC_ok _ _) 60 Tryz.func40 (mm_d N t x c) (by rw [n0,n1,ht,hok,decide_eq_true hT.le,hc,p0,p1,decide_eq_true h2];rfl) rfl)
 have n2:=decide_eq_false h2
 by_cases h3:c=leftV x
 ·have q:mkQ N t x c=true:=by unfold mkQ;rw [hQ,decide_eq_true (show 0≤c by omega),show (c==leftV x)=true from beq_iff_eq.2 h3];rfl
  unfold mkL;rw [q]
  exact call0 (mmC_ok _ _) 60 Tryz.func40 (mm_f N t x c) (by rw [n0,n1,ht,hok,decide_eq_true hT.le,hc,p0,p1,n2,q,show (c != leftV x)=false by simp [h3]];rfl) rfl
 ·by_cases h4:c=rightV x
  ·have q:mkQ N t x c=true:=by unfold mkQ;rw [hQ,decide_eq_true (show 0≤c by omega),show (c==rightV x)=true from beq_iff_eq.2 h4,Bool.or_true];rfl
   unfold mkL;rw [q]
   exact call0 (mmC_ok _ _) 60 Tryz.func40 (mm_g N t x c) (by rw [n0,n1,ht,hok,decide_eq_true hT.le,hc,p0,p1,n2,q,show (c != leftV x)=true by simp [h3],show (c != rightV x)=false by simp [h4]];rfl) rfl
  ·exact no (by unfold mkQ;rw [show (c==leftV x)=false from beq_false_of_ne h3,show (c==rightV x)=false from beq_false_of_ne h4,Bool.or_false,Bool.and_false,Bool.and_false]) (call0 (mmC_ok _ _) 60 Tryz.func40 (mm_e N t x c) (by rw [n0,n1,ht,hok,decide_eq_true hT.le,hc,p0,p1,n2,show (c != leftV x)=true by simp [h3],show (c != rightV x)=true by simp [h4]];rfl) rfl)
end
noncomputable def mMarkE:Entry Tryz.prog:=.val 40 _ Tryz.func40 (by decide) rfl true 0 (fun vs=>match vs with
 | [.rol false 99 N g,.int .i64 x,.int .i64 c]=>some (.tup [.agg [.ints .u8 32 (mkL N (treeOf g) x c)],.bool (mkQ N (treeOf g) x c)],[],okT N g&&decide (N≤71))
 |_=>none) fun vs v new e=>by
 split at e
 ·simp only [Option.some.injEq,Prod.mk.injEq,Bool.and_eq_true,decide_eq_true_eq] at e
  obtain ⟨rfl,rfl,h1,h2⟩:=e
  exact FnTr.conv (mMark_fn (TOK.of h1 h2)) ⟨VE.tree h1,VE.refl _,VE.refl _,trivial⟩ trivial (VE.refl _) trivial
 ·cases e
end Go.Proofs.YthlnlcijnoadcaaGreatDoor.Mk
end
section
namespace Go.Sy
open Go
section
variable {k:Nat}
theorem Ent.nilRows {t:List (Option SV)} {h:List Blk} {o o':Bool} (i:Nat) (hi:t[i]? =some (some (.nl (.slice none 0 0)))) (z:Nat) (g:Nat→List SV) (ex:Bool):Ent k ⟨t,h,o⟩ ⟨t.set i (some (.rsl h.length z 0 0 ex)),h++[.b [.rows z 0 g]],o'⟩:=
 fun B e w t' _ hl R=>⟨e,rfl,⟨by simpa using hl.1,fun j v v' a c=>by
  by_cases hij:i=j
  ·subst hij
   rw [List.getElem?_set_self (List.getElem?_eq_some_iff.1 hi).1] at a
   simp only [Option.some.injEq] at a
   subst a
   have h1:v'= .slice none 0 0:=hl.2 i _ v' hi c
   exact .inl ⟨rfl,rfl,none,h1⟩
  ·rw [List.getElem?_set_ne hij] at a
   exact hl.2 j v v' a c⟩,by
  have:=R.nothing (j:=h.length) (ps:=[.rows z 0 g]) (.inl rfl) (by simp [psize,psz])
  unfold placeH at this
  rw [if_pos rfl] at this
  exact this⟩
end
end Go.Sy
namespace Go.Proofs.YthlnlcijnoadcaaGreatDoor.Mk
open Go Go.Sy Tr Wi S2
noncomputable def bcC (l:List (Nat×Bool)):Ctr:=mk (P:=Tryz.prog) [] [] (uT l)
theorem bcC_ok (l:List (Nat×Bool)):CtrSound Tryz.prog (bcC l):=mk_sound _ InlOK.nil _ _
noncomputable def bcB:Code:=bodyOf Tryz.f22
noncomputable def bcL:Code:=inner (inner (nthC 3 bcB))
noncomputable def bcN:Code:=inner (nthC 2 bcL)
noncomputable def bcS (N:Nat) (t:Nat→Nod) (n:Nat) (i:Int):St:=⟨slotsOf 26 [(0,.rol false 99 N (tng t)),(3,.rsl 0 99 n n false),(4,.int .i64 i)],[.b [.rows 99 n (tng t)]],true⟩
abbrev nodX (n:Nod) (v:SV):List SV:=[.bool n.used,.int .i64 n.name,.ints .u8 32 n.key,.ints .u8 32 n.sign,.ints .u8 32 n.par,v]
noncomputable def bcT (N:Nat) (t:Nat→Nod) (n:Nat) (i:Int):List (Option SV):=slotsOf 26 [(0,.rol false 99 N (tng t)),(3,.rsl 0 99 n n false),(4,.int .i64 i),(5,.ptr 1 0 0)]
theorem bc_head (N:Nat) (t:Nat→Nod):resX (cutR [0,3,4] 0 ((execL Tryz.prog (bcC []) 60 0 3 (atoms bcB) ⟨slots0 Tryz.f22.ntmps [.rol false 99 N (tng t)],[],true⟩).map fun s=>(Exit.normal,s)))=some (.normal,slotsOf 26 [(0,.rol false 99 N (tng t)),(3,.nl (.slice none 0 0)),(4,.int .i64 0)],[]):=by kernel_rfl
theorem bc_head' (N:Nat) (t:Nat→Nod):obX (cutR [0,3,4] 0 ((execL Tryz.prog (bcC []) 60 0 3 (atoms bcB) ⟨slots0 Tryz.f22.ntmps [.rol false 99 N (tng t)],[],true⟩).map fun s=>(Exit.normal,s)))=(true):=by kernel_rfl
theorem bc_c (N:Nat) (t:Nat→Nod) (n:Nat) (i:Int):resX (cutR [0,3,4] 1 ((execL Tryz.prog (bcC [(9,true)]) 60 0 2 (atoms bcL) (bcS N t n i)).map fun s=>(Exit.normal,s)))=some (.normal,(bcS N t n i).t,(bcS N t n i).h):=by kernel_rfl
theorem bc_c' (N:Nat) (t:Nat→Nod) (n:Nat) (i:Int):obX (cutR [0,3,4] 1 ((execL Tryz.prog (bcC [(9,true)]) 60 0 2 (atoms bcL) (bcS N t n i)).map fun s=>(Exit.normal,s)))=(andT true (decide (i<((N:Nat):Int)))):=by kernel_rfl
theorem bc_n (N:Nat) (t:Nat→Nod) (n:Nat) (i:Int):resX (cutR [0,3,4,5] 3 ((execL Tryz.prog (bcC []) 60 0 2 (atoms bcN) (bcS N t n i)).map fun s=>(Exit.normal,s)))=some (.normal,bcT N t n i,[.b [.rows 99 n (tng t)],.b (nodX (t i.toNat) (.sl 2 0 0 1 (0+(t i.toNat).un.length) (0+(t i.toNat).un.length) false true)),.b [.ints .i64 (0+(t i.toNat).un.length) (List.replicate 0 0++(t i.toNat).un)]]):=by kernel_rfl
theorem bc_n' (N:Nat) (t:Nat→Nod) (n:Nat) (i:Int):obX (cutR [0,3,4,5] 3 ((execL Tryz.prog (bcC []) 60 0 2 (atoms bcN) (bcS N t n i)).map fun s=>(Exit.normal,s)))=(andT (andT (andT true (inB i N)) (true&&(decide (i.toNat<N)&&true))) (andT true (decide (0+(t i.toNat).un.length≤2^38)))):=by kernel_rfl
theorem bc_p (N:Nat) (t:Nat→Nod) (n:Nat) (i:Int) (m:Nod):resX (cutR [0,3,4] 1 (execA Tryz.prog (bcC []) 60 0 ((atoms bcN).drop 2) ⟨bcT N t n i,[.b [.rows 99 n (tng t)],.b (nodX m (.ro false .i64 m.un))],true⟩))=some (.normal,slotsOf 26 [(0,.rol false 99 N (tng t)),(3,.rsl 0 99 (n+1) (n+1) false),(4,.int .i64 i)],[.b [.rows 99 (n+1) fun j=>mergeP (Nat.ble (j+1) n) (tng t j) m.cells]]):=by kernel_rfl
theorem bc_p' (N:Nat) (t:Nat→Nod) (n:Nat) (i:Int) (m:Nod):obX (cutR [0,3,4] 1 (execA Tryz.prog (bcC []) 60 0 ((atoms bcN).drop 2) ⟨bcT N t n i,[.b [.rows 99 n (tng t)],.b (nodX m (.ro false .i64 m.un))],true⟩))=(andT true (andT (andT true (decide (n≤n))) (decide (n+1≤2^38)))):=by kernel_rfl
theorem bc_i (N:Nat) (t:Nat→Nod) (n:Nat) (i:Int):resX (cutR [0,3,4] 1 (execA Tryz.prog (bcC []) 60 0 ((atoms bcL).drop 3) (bcS N t n i)))=some (.normal,(bcS N t n (IntKind.i64.wrap (i+1))).t,(bcS N t n i).h):=by kernel_rfl
theorem bc_i' (N:Nat) (t:Nat→Nod) (n:Nat) (i:Int):obX (cutR [0,3,4] 1 (execA Tryz.prog (bcC []) 60 0 ((atoms bcL).drop 3) (bcS N t n i)))=(true):=by kernel_rfl
theorem bc_end (N:Nat) (t:Nat→Nod) (n:Nat) (i:Int):resX (cutR [3] 1 (exec Tryz.prog (bcC [(9,false)]) 60 0 bcL (bcS N t n i)))=some (.exit 0,slotsOf 26 [(3,.rsl 0 99 n n false)],[.b [.rows 99 n (tng t)]]):=by kernel_rfl
theorem bc_end' (N:Nat) (t:Nat→Nod) (n:Nat) (i:Int):obX (cutR [3] 1 (exec Tryz.prog (bcC [(9,false)]) 60 0 bcL (bcS N t n i)))=(andT true !decide (i<((N:Nat):Int))):=by kernel_rfl
theorem bc_z (N:Nat) (t:Nat→Nod) (n:Nat) (i:Int) (m:Nod):St.fz 2 ⟨bcT N t n i,[.b [.rows 99 n (tng t)],.b (nodX m (.sl 2 0 0 1 m.un.length m.un.length false true)),.b [.ints .i64 m.un.length m.un]],true⟩=some (⟨bcT N t n i,[.b [.rows 99 n (tng t)],.b (nodX m (.ro true .i64 m.un)),.b []],true⟩,andT (decide (m.un.length=m.un.length)) (andT ((bcT N t n i).all fun o=>match o with|some v=>fzO 2 m.un.length v|none=>true) (fzOA 2 m.un.length [.b [.rows 99 n (tng t)],.b (nodX m (.sl 2 0 0 1 m.un.length m.un.length false true)),.b [.ints .i64 m.un.length m.un]] 0))):=by kernel_rfl
theorem bc_frz (N:Nat) (t:Nat→Nod) (n:Nat) (i:Int) (m:Nod):Ent 0 ⟨bcT N t n i,[.b [.rows 99 n (tng t)],.b (nodX m (.sl 2 0 0 1 m.un.length m.un.length false true)),.b [.ints .i64 m.un.length m.un]],true⟩ ⟨bcT N t n i,[.b [.rows 99 n (tng t)],.b (nodX m (.ro false .i64 m.un))],true⟩:=by
 have e:=bc_z N t n i m
 have e2:fzOA 2 m.un.length [.b [.rows 99 n (tng t)],.b (nodX m (.sl 2 0 0 1 m.un.length m.un.length false true)),.b [.ints .i64 m.un.length m.un]] 0=true:=by simp [fzOA,fzOB,fzO,fzOL,andT_iff]
 have e3:((bcT N t n i).all fun o=>match o with|some v=>fzO 2 m.un.length v|none=>true)=true:=by kernel_rfl
 rw [e2,e3,decide_eq_true rfl] at e
 refine (Ent.freeze (k:=0) (b:=2) (Nat.zero_le _) e).trans ?_
 refine (Ent.trunc (n:=2) (Nat.zero_le _) (s':=⟨bcT N t n i,[.b [.rows 99 n (tng t)],.b (nodX m (.ro true .i64 m.un))],true⟩) (by kernel_rfl)).trans ?_
 exact Ent.blks ⟨PE.refl _,PE.last (ps:=[.bool m.used,.int .i64 m.name,.ints .u8 32 m.key,.ints .u8 32 m.sign,.ints .u8 32 m.par]) rfl rfl (VE.roCool true .i64 m.un),trivial⟩
theorem bc_merge (t:Nat→Nod) (n:Nat):∀i,i<n+1→PE (mergeP (Nat.ble (i+1) n) (tng t i) (t n).cells) (tng t i):=fun i hi=>by
 by_cases h:i<n
 ·rw [Nat.ble_eq_true_of_le (show i+1≤n by omega)];exact PE.refl _
 ·obtain rfl:i=n:=by omega
  rw [show Nat.ble (i+1) i=false from by
   cases hb:Nat.ble (i+1) i with
   |false=>rfl
   |true=>have:=Nat.le_of_ble_eq_true hb;omega]
  exact PE.refl _
theorem bcopy_fn {N:Nat} {t:Nat→Nod} (hT:TOK N t):FnTr Tryz.prog 22 [.rol false 99 N (tng t)] [] (.rsl 0 99 N N false) [.b [.rows 99 N (tng t)]]:=by
 have hle:=hT.le
 refine FnTr.toEnd (h:=[]) Tryz.func22 rfl 3 0 (fun j=>bcS N t j ((j:Nat):Int)) N
  (fun y s' g=>TrL.itemsX (bcC_ok []) 60 3 _ 0 (Nat.zero_le _) (s1:=⟨slotsOf 26 [(0,.rol false 99 N (tng t)),(3,.nl (.slice none 0 0)),(4,.int .i64 0)],[],true⟩) _ (bc_head N t) (bc_head' N t) rfl (by decide) rfl (TrL.pre g (Ent.nilRows 3 rfl 99 (tng t) false) (by intro q;cases q))) (by decide) (by kernel_rfl)
  (fun j hj=>?_) (sE:=⟨slotsOf 26 [(3,.rsl 0 99 N N false)],[.b [.rows 99 N (tng t)]],true⟩) (s':=⟨slotsOf 26 [(2,.rsl 0 99 N N false),(3,.rsl 0 99 N N false),(25,.rsl 0 99 N N false)],[.b [.rows 99 N (tng t)]],true⟩) (x:=.ret) (v:=[.rsl 0 99 N N false]) ?_ ?_ (.inl rfl) (by kernel_rfl)
 ·refine Tr.of_atoms (TrL.itemsX (bcC_ok [(9,true)]) 60 2 _ 1 (Nat.zero_le _) (s1:=bcS N t j j) _ (bc_c N t j j) (bc_c' N t j j) (by rw [ltN hj];rfl) (by decide) rfl ?_)
  refine TrL.item 2 (by decide) (s1:=bcS N t (j+1) ((j:Nat):Int)) ?_ ?_
  ·rw [show nthC 2 (inner (inner (nthC 3 (bodyOf Tryz.f22))))= .block 1 bcN by kernel_rfl]
   refine Tr.block_pass (Tr.of_atoms ?_) (by simp)
   have e:=bc_n N t j j
   have e':=bc_n' N t j j
   rw [Int.toNat_natCast,Nat.zero_add,List.replicate_zero,List.nil_append] at e
   rw [Int.toNat_natCast,Nat.zero_add] at e'
   refine TrL.itemsX (bcC_ok []) 60 2 _ 3 (Nat.zero_le _) (s1:=⟨bcT N t j j,[.b [.rows 99 j (tng t)],.b (nodX (t j) (.sl 2 0 0 1 (t j).un.length (t j).un.length false true)),.b [.ints .i64 (t j).un.length (t j).un]],true⟩) _ e e' (by rw [inBN hj,decide_eq_true hj,decide_eq_true (show (t j).un.length≤2^38 by have:=hT.un j hj;omega)];rfl) (by decide) rfl ?_
   refine TrL.pre ?_ (bc_frz N t j j (t j)) (by intro q;cases q)
   refine TrL.post (s1:=⟨slotsOf 26 [(0,.rol false 99 N (tng t)),(3,.rsl 0 99 (j+1) (j+1) false),(4,.int .i64 j)],[.b [.rows 99 (j+1) fun i=>mergeP (Nat.ble (i+1) j) (tng t i) (t j).cells]],true⟩) (TrL.cutA (bcC_ok []) 60 _ 1 (Nat.zero_le _) _ (bc_p N t j j (t j)) (bc_p' N t j j (t j)) (by rw [decide_eq_true (Nat.le_refl _),decide_eq_true (show j+1≤2^38 by omega)];rfl) (by intro q;cases q)) (Ent.blks ⟨PE.rows (bc_merge t j),trivial⟩) (by intro q;cases q)
  ·have e:=bc_i N t (j+1) j
   rw [wrapS (by omega)] at e
   exact TrL.cutA (bcC_ok []) 60 _ 1 (Nat.zero_le _) (s':=bcS N t (j+1) ((j+1:Nat):Int)) _ e (bc_i' N t (j+1) j) rfl (by intro q;cases q)
 ·exact Tr.cutX (bcC_ok [(9,false)]) 60 _ 1 (Nat.zero_le _) _ (bc_end N t N N) (bc_end' N t N N) (by rw [nltN (Nat.le_refl _)];rfl)
 ·exact TrL.rest (bcC_ok []) 60 (by kernel_rfl) rfl
noncomputable def bcopyE:Entry Tryz.prog:=.val 22 _ Tryz.func22 (by decide) rfl true 1 (fun vs=>match vs with
 | [.rol false 99 N g]=>some (.rsl 0 99 N N false,[.b [.rows 99 N (tng (treeOf g))]],okT N g&&decide (N≤71))
 |_=>none) fun vs v new e=>by
 split at e
 ·simp only [Option.some.injEq,Prod.mk.injEq,Bool.and_eq_true,decide_eq_true_eq] at e
  obtain ⟨rfl,rfl,h1,h2⟩:=e
  exact FnTr.conv (bcopy_fn (TOK.of h1 h2)) ⟨VE.tree h1,trivial⟩ trivial (VE.refl _) ⟨PE.refl _,trivial⟩
 ·cases e
end Go.Proofs.YthlnlcijnoadcaaGreatDoor.Mk
end
section
namespace Go.Proofs.YthlnlcijnoadcaaGreatDoor.Mk
open Go Go.Sy Tr Wi S2
def kT (t:Nat→Nod) (f:Nat→List Int):Nat→Nod:=fun x=>{t x with key:=f x}
section
variable {t:Nat→Nod} {f:Nat→List Int} {N n:Nat}
theorem nmL_key (t:Nat→Nod) (f:Nat→List Int):∀i,nmL (kT t f) i=nmL t i:=by
 intro i
 induction i with
 |zero=>rfl
 |succ i ih=>
  unfold nmL
  rw [ih];rfl
theorem goodJ_key (hf:∀x,(t x).used=false→f x=(t x).key) (i:Nat):goodJ (kT t f) n i=goodJ t n i:=by
 cases hu:(t i).used with
 |false=>
  have e:kT t f i=t i:=by unfold kT;rw [hf i hu]
  unfold goodJ
  rw [e,hu];rfl
 |true=>
  have e1:(kT t f i).used=true:=hu
  have e2:(kT t f i).name=(t i).name:=rfl
  have e3:(kT t f i).un=(t i).un:=rfl
  have e4:upperB (kT t f) i n=upperB t i n:=rfl
  unfold goodJ
  rw [nmL_key,e1,e2,e3,e4,hu];rfl
theorem check_key (hf:∀x,(t x).used=false→f x=(t x).key):checkB N (kT t f)=checkB N t:=by
 have e:∀m,emptyB N (kT t f) m=emptyB N t m:=fun _=>rfl
 unfold checkB
 rw [e,show goodJ (kT t f) (leavesV N).toNat=goodJ t (leavesV N).toNat from funext fun i=>goodJ_key hf i]
theorem digL_out (t u:Nat→Nod) (wo:List Int):∀(k y:Nat),(∀z,y<z+2^k→z<y+2^k→u z=t z)→digL u wo k y=digL t wo k y:=by
 intro k
 induction k with
 |zero=>
  intro y h
  have:=h y (by omega) (by omega)
  unfold digL leafW
  rw [this]
 |succ k ih=>
  intro y h
  have hp:1≤2^k:=Nat.one_le_two_pow
  have e:2^(k+1)=2*2^k:=by rw [Nat.pow_succ];omega
  rw [e] at h
  unfold digL
  rw [h y (by omega) (by omega),ih (y-2^k) (fun z a b=>h z (by omega) (by omega)),ih (y+2^k) (fun z a b=>h z (by omega) (by omega))]
def kyX (b:Int) (k:List Int):List Int:=k.set 3 (xorI .u8 (k.getD 3 0) b)
def flK (t:Nat→Nod) (b:Int) (a j:Nat) (x:Nat):List Int:=bif (x%2==0)&&decide (a≤x/2)&&decide (x/2<a+j)&&(t x).used then kyX b (t x).key else (t x).key
def flT (t:Nat→Nod) (b:Int) (a j:Nat):Nat→Nod:=kT t (flK t b a j)
theorem flK_blank (b:Int) (a j:Nat) (x:Nat) (h:(t x).used=false):flK t b a j x=(t x).key:=by
 unfold flK;rw [h,Bool.and_false];rfl
theorem flT_check (b:Int) (a j:Nat):checkB N (flT t b a j)=checkB N t:=check_key (flK_blank b a j)
theorem flT_same (b:Int) {a j x:Nat} (h:x%2=1∨x/2<a∨a+j≤x/2):flT t b a j x=t x:=by
 have e:flK t b a j x=(t x).key:=by
  unfold flK
  have:((x%2==0)&&decide (a≤x/2)&&decide (x/2<a+j))=false:=by
   rcases h with h|h|h
   ·rw [show (x%2==0)=false from by rw [h];rfl];rfl
   ·rw [decide_eq_false (show ¬a≤x/2 by omega),Bool.and_false];rfl
   ·rw [decide_eq_false (show ¬x/2<a+j by omega),Bool.and_false]
  rw [this];rfl
 show ({t x with key:=flK t b a j x}:Nod)=t x
 rw [e]
theorem flT_step (b:Int) (a j:Nat):flT t b a (j+1)=fun x=>bif decide (x=2*(a+j))&&(t x).used then {t x with key:=kyX b (t x).key} else flT t b a j x:=by
 funext x
 by_cases h:x=2*(a+j)
 ·subst h
  rw [decide_eq_true rfl,Bool.true_and]
  show ({t (2*(a+j)) with key:=flK t b a (j+1) (2*(a+j))}:Nod)=_
  unfold flK
  rw [show (2*(a+j)%2==0)=true from beq_iff_eq.2 (by omega),decide_eq_true (show a≤2*(a+j)/2 by omega),decide_eq_true (show 2*(a+j)/2<a+(j+1) by omega)]
  cases hu:(t (2*(a+j))).used with
  |true=>rfl
  |false=>
   show t (2*(a+j))=flT t b a j (2*(a+j))
   rw [flT_same b (.inr (.inr (by omega)))]
 ·rw [decide_eq_false h]
  show ({t x with key:=flK t b a (j+1) x}:Nod)=({t x with key:=flK t b a j x}:Nod)
  have:flK t b a (j+1) x=flK t b a j x:=by
   unfold flK
   by_cases hp:x%2=0
   ·rw [show decide (x/2<a+(j+1))=decide (x/2<a+j) from by by_cases q:x/2<a+j<;>simp [q]<;>omega]
   ·rw [show (x%2==0)=false from beq_false_of_ne hp];rfl
  rw [this]
theorem kyX_len (b:Int) (k:List Int):(kyX b k).length=k.length:=by unfold kyX;rw [List.length_set]
theorem flT_ok (hT:TOK N t) (b:Int) (a j:Nat):TOK N (flT t b a j):=⟨hT.le,fun i hi=>hT.un i hi,fun i hi=>by
 show (flK t b a j i).length=32
 unfold flK
 cases (i%2==0)&&decide (a≤i/2)&&decide (i/2<a+j)&&(t i).used with
 |true=>exact (kyX_len b _).trans (hT.key i hi)
 |false=>exact hT.key i hi,fun i hi=>hT.sign i hi,fun i hi=>hT.par i hi⟩
theorem keep_mark (hT:TOK N t) (hc:checkB N t=true) {x:Nat} (hx:x<N) (hodd:x%2=1) (b:Int) {j:Nat} (hj:((j:Nat):Int)≤lastV (leftV x)+1-firstV (leftV x)) (h0:0≤firstV (leftV x)):
  mkQ N t x (leftV x)=true∧mkQ N (flT t b (firstV (leftV x)).toNat j) x (leftV x)=true∧mkL N (flT t b (firstV (leftV x)).toNat j) x (leftV x)=mkL N t x (leftV x):=by
 obtain ⟨n,hn,_,hN,_⟩:=check_parts hT hc
 have hs:=sizes_le hn
 have hl:∃k,lvN 7 x=k+1:=by
  cases h:lvN 7 x with
  |succ k=>exact ⟨k,rfl⟩
  |zero=>
   rw [lvN,hodd] at h
   simp at h
 obtain ⟨k,hk⟩:=hl
 obtain ⟨a1,a2,a3,a4,a5,a6,a7⟩:=kid_succ hn (show x<2*n-1 by omega) hk
 have hp:1≤2^k:=Nat.one_le_two_pow
 have hd:dgQ N t x=true:=by unfold dgQ;rw [hc,decide_eq_true (show (0:Int)≤(x:Int) by omega),decide_eq_true (show (x:Int)<N by omega)];rfl
 have hd':dgQ N (flT t b (firstV (leftV x)).toNat j) x=true:=by unfold dgQ;rw [flT_check,hc,decide_eq_true (show (0:Int)≤(x:Int) by omega),decide_eq_true (show (x:Int)<N by omega)];rfl
 have q:∀u:Nat→Nod,dgQ N u x=true→mkQ N u x (leftV x)=true:=fun u hu=>by
  unfold mkQ
  rw [hu,decide_eq_true (show 0≤leftV x by omega),show (leftV (x:Int)==leftV (x:Int))=true from beq_iff_eq.2 rfl];rfl
 have hlast:lastV (leftV (x:Int))=((x:Int)-1)/2:=by
  rw [a1]
  unfold lastV
  rw [Int.toNat_natCast,a5]
  have:(((x-2^k:Nat):Int)+(2^k-1))=(x:Int)-1:=by
   have:((2^k:Nat):Int)=(2:Int)^k:=by norm_cast
   omega
  rw [this]
 have far:∀z,x≤z→flT t b (firstV (leftV (x:Int))).toNat j z=t z:=fun z hz=>by
  by_cases ho:z%2=1
  ·exact flT_same b (.inl ho)
  ·refine flT_same b (.inr (.inr ?_))
   rw [hlast] at hj
   omega
 refine ⟨q t hd,q _ hd',?_⟩
 unfold mkL
 rw [q t hd,q _ hd']
 have es:leftV (x:Int)+rightV (x:Int)-leftV (x:Int)=((x+2^k:Nat):Int):=by rw [a2];omega
 rw [es]
 show markW _ _ _=markW _ _ _
 unfold markW digV
 rw [Int.toNat_natCast,Int.toNat_natCast,a6,far x (Nat.le_refl _),digL_out t _ _ k (x+2^k) (fun z ha hb=>far z (by omega))]
end
end Go.Proofs.YthlnlcijnoadcaaGreatDoor.Mk
end
section
namespace Go.Proofs.YthlnlcijnoadcaaGreatDoor.Mk
open Go Go.Sy Tr Wi S2
noncomputable def kpC (b:Bool) (l:List (Nat×Bool)):Ctr:=mk (P:=Tryz.prog) [alive15E,largeME,goodE b,rChildrenE,mMarkE,bcopyE,rLeavesE,rBelowE] [] (uT l)
theorem kpC_ok (b:Bool) (l:List (Nat×Bool)):CtrSound Tryz.prog (kpC b l):=mk_sound _ InlOK.nil _ _
noncomputable def kpB:Code:=bodyOf Tryz.f10
def xK (N:Nat) (x:Int):Int:=IntKind.i64.wrap (1+IntKind.i64.wrap (2*IntKind.i64.wrap ((IntKind.u64.wrap x).tmod (IntKind.u64.wrap (IntKind.i64.wrap (((N:Nat):Int).tdiv 2))))))
noncomputable def kpS (N:Nat) (u:Nat→Nod) (x bb l last:Int) (m:List Int) (ok:Bool) (i:Int):St:=⟨slotsOf 103 [(1,.int .i64 x),(2,.int .u8 bb),(7,.int .i64 l),(9,.ptr 0 0 0),(10,.bool ok),(11,.rsl 1 99 N N false),(13,.int .i64 last),(14,.int .i64 i)],[.b [.ints .u8 32 m],.b [.rows 99 N (tng u)]],true⟩
def nodK (n:Nod) (bb:Int):Nod:={n with key:=kyX bb n.key}
theorem kp_a (N:Nat) (t:Nat→Nod) (x bb:Int):(callS Tryz.prog (kpC true [(21,true)]) 60 Tryz.f10 [.rol false 99 N (tng t),.int .i64 x,.int .u8 bb] []).map (fun x=>(x.1,x.2.2))=some (.bool true,andT (andT true (andT true (okT0 N fun i=>coolL (tng t i)))) (largeM N (treeOf fun i=>coolL (tng t i)))):=by kernel_rfl
theorem kp_b (N:Nat) (t:Nat→Nod) (x bb:Int):(callS Tryz.prog (kpC false [(21,false),(26,true)]) 60 Tryz.f10 [.rol false 99 N (tng t),.int .i64 x,.int .u8 bb] []).map (fun x=>(x.1,x.2.2))=some (.bool true,andT (andT (andT true (andT true (okT0 N fun i=>coolL (tng t i)))) !largeM N (treeOf fun i=>coolL (tng t i))) (andT true ((okT N fun i=>coolL (tng t i))&&decide (N≤71)&&goodQ N (treeOf fun i=>coolL (tng t i))==false))):=by kernel_rfl
theorem kp_c (N:Nat) (t:Nat→Nod) (x bb:Int):(callS Tryz.prog (kpC true [(21,false),(26,false),(30,true)]) 60 Tryz.f10 [.rol false 99 N (tng t),.int .i64 x,.int .u8 bb] []).map (fun x=>(x.1,x.2.2))=some (.bool true,andT (andT (andT (andT true (andT true (okT0 N fun i=>coolL (tng t i)))) !largeM N (treeOf fun i=>coolL (tng t i))) (andT true ((okT N fun i=>coolL (tng t i))&&decide (N≤71)&&goodQ N (treeOf fun i=>coolL (tng t i))==true))) (decide (((N:Nat):Int)<3))):=by kernel_rfl
theorem kp_h (N:Nat) (t:Nat→Nod) (x bb:Int):resX (cutR [1,2,7,9,10,11,13,14] 2 ((execL Tryz.prog (kpC true [(21,false),(26,false),(30,false)]) 60 0 11 (atoms kpB) ⟨slots0 Tryz.f10.ntmps [.rol false 99 N (tng t),.int .i64 x,.int .u8 bb],[],true⟩).map fun s=>(Exit.normal,s)))=some (.normal,(kpS N t (xK N x) bb (leftV (xK N x)) (lastV (leftV (xK N x))) (mkL N t (xK N x) (leftV (xK N x))) (mkQ N t (xK N x) (leftV (xK N x))) (firstV (leftV (xK N x)))).t,(kpS N t (xK N x) bb (leftV (xK N x)) (lastV (leftV (xK N x))) (mkL N t (xK N x) (leftV (xK N x))) (mkQ N t (xK N x) (leftV (xK N x))) (firstV (leftV (xK N x)))).h):=by kernel_rfl
theorem kp_h' (N:Nat) (t:Nat→Nod) (x bb:Int):obX (cutR [1,2,7,9,10,11,13,14] 2 ((execL Tryz.prog (kpC true [(21,false),(26,false),(30,false)]) 60 0 11 (atoms kpB) ⟨slots0 Tryz.f10.ntmps [.rol false 99 N (tng t),.int .i64 x,.int .u8 bb],[],true⟩).map fun s=>(Exit.normal,s)))=(andT (andT (andT (andT (andT (andT (andT (andT (andT (andT true (andT true (okT0 N fun i=>coolL (tng t i)))) !largeM N (treeOf fun i=>coolL (tng t i))) (andT true ((okT N fun i=>coolL (tng t i))&&decide (N≤71)&&goodQ N (treeOf fun i=>coolL (tng t i))==true))) !decide (((N:Nat):Int)<3)) (IntKind.u64.wrap (IntKind.i64.wrap ((((N:Nat):Int)).tdiv 2)) != 0)) (andT true (decide (0≤IntKind.i64.wrap (1+IntKind.i64.wrap (2*IntKind.i64.wrap ((IntKind.u64.wrap x).tmod (IntKind.u64.wrap (IntKind.i64.wrap ((((N:Nat):Int)).tdiv 2)))))))&&decide (IntKind.i64.wrap (1+IntKind.i64.wrap (2*IntKind.i64.wrap ((IntKind.u64.wrap x).tmod (IntKind.u64.wrap (IntKind.i64.wrap ((((N:Nat):Int)).tdiv 2))))))<64)))) (andT true ((okT N fun i=>coolL (tng t i))&&decide (N≤71)))) (andT true ((okT N fun i=>coolL (tng t i))&&decide (N≤71)))) (andT true (true&&decide (((N:Nat):Int)<72)))) (andT true (decide (0≤leavesV ((N:Nat):Int))&&Tr.nodeB (leftV (IntKind.i64.wrap (1+IntKind.i64.wrap (2*IntKind.i64.wrap ((IntKind.u64.wrap x).tmod (IntKind.u64.wrap (IntKind.i64.wrap ((((N:Nat):Int)).tdiv 2)))))))) (leavesV ((N:Nat):Int))))):=by kernel_rfl
theorem kp_on (N:Nat) (u:Nat→Nod) (x bb l last:Int) (m:List Int) (ok:Bool) (i:Int):resX (cutR [1,2,7,9,10,11,13,14] 2 (exec Tryz.prog (kpC true [(66,true),(74,true)]) 60 0 (inner (inner (nthC 11 kpB))) (kpS N u x bb l last m ok i)))=some (.normal,(kpS N u x bb l last m ok (IntKind.i64.wrap (i+1))).t,[.b [.ints .u8 32 m],.b [.rows 99 N fun k=>mergeP (Nat.beq k (IntKind.i64.wrap (2*i)).toNat) (nodK (u (IntKind.i64.wrap (2*i)).toNat) bb).cells (tng u k)]]):=by kernel_rfl
theorem kp_on' (N:Nat) (u:Nat→Nod) (x bb l last:Int) (m:List Int) (ok:Bool) (i:Int):obX (cutR [1,2,7,9,10,11,13,14] 2 (exec Tryz.prog (kpC true [(66,true),(74,true)]) 60 0 (inner (inner (nthC 11 kpB))) (kpS N u x bb l last m ok i)))=(andT (andT (andT (andT (andT (andT (andT (andT true (decide (i≤last))) (inB (IntKind.i64.wrap (2*i)) N)) (true&&(decide ((IntKind.i64.wrap (2*i)).toNat<N)&&true))) (u (IntKind.i64.wrap (2*i)).toNat).1) (inB (IntKind.i64.wrap (2*i)) N)) (true&&(decide ((IntKind.i64.wrap (2*i)).toNat<N)&&true))) (inB (IntKind.i64.wrap (2*i)) N)) (true&&decide ((u (IntKind.i64.wrap (2*i)).toNat).key.length=32)&&decide ((IntKind.i64.wrap (2*i)).toNat<N))):=by kernel_rfl
theorem kp_of (N:Nat) (u:Nat→Nod) (x bb l last:Int) (m:List Int) (ok:Bool) (i:Int):resX (cutR [1,2,7,9,10,11,13,14] 2 (exec Tryz.prog (kpC true [(66,true),(74,false)]) 60 0 (inner (inner (nthC 11 kpB))) (kpS N u x bb l last m ok i)))=some (.normal,(kpS N u x bb l last m ok (IntKind.i64.wrap (i+1))).t,(kpS N u x bb l last m ok (IntKind.i64.wrap (i+1))).h):=by kernel_rfl
theorem kp_of' (N:Nat) (u:Nat→Nod) (x bb l last:Int) (m:List Int) (ok:Bool) (i:Int):obX (cutR [1,2,7,9,10,11,13,14] 2 (exec Tryz.prog (kpC true [(66,true),(74,false)]) 60 0 (inner (inner (nthC 11 kpB))) (kpS N u x bb l last m ok i)))=(andT (andT (andT (andT true (decide (i≤last))) (inB (IntKind.i64.wrap (2*i)) N)) (true&&(decide ((IntKind.i64.wrap (2*i)).toNat<N)&&true))) !(u (IntKind.i64.wrap (2*i)).toNat).1):=by kernel_rfl
theorem kp_end (N:Nat) (u:Nat→Nod) (x bb l last:Int) (m:List Int) (ok:Bool) (i:Int):resX (cutR [1,2,7,9,10,11,13,14] 2 (exec Tryz.prog (kpC true [(66,false)]) 60 0 (inner (inner (nthC 11 kpB))) (kpS N u x bb l last m ok i)))=some (.exit 0,(kpS N u x bb l last m ok i).t,(kpS N u x bb l last m ok i).h):=by kernel_rfl
theorem kp_end' (N:Nat) (u:Nat→Nod) (x bb l last:Int) (m:List Int) (ok:Bool) (i:Int):obX (cutR [1,2,7,9,10,11,13,14] 2 (exec Tryz.prog (kpC true [(66,false)]) 60 0 (inner (inner (nthC 11 kpB))) (kpS N u x bb l last m ok i)))=(andT true !decide (i≤last)):=by kernel_rfl
theorem kp_r (N:Nat) (u:Nat→Nod) (x bb l last:Int) (m:List Int) (i:Int):resX (cutR [6] 0 (execA Tryz.prog (kpC true [(98,true)]) 60 0 ((atoms kpB).drop 12) (kpS N u x bb l last m true i)))=some (.ret,slotsOf 103 [(6,.bool (decide (m=mkL N u x l)))],[]):=by kernel_rfl
theorem kp_r' (N:Nat) (u:Nat→Nod) (x bb l last:Int) (m:List Int) (i:Int):obX (cutR [6] 0 (execA Tryz.prog (kpC true [(98,true)]) 60 0 ((atoms kpB).drop 12) (kpS N u x bb l last m true i)))=(andT (andT (andT true (andT (decide (N≤N)) ((okT N fun i=>coolL (tng u i))&&decide (N≤71)))) (mkQ N (treeOf fun i=>coolL (tng u i)) x l)) (andT (decide (m.length=32)) (decide ((mkL N (treeOf fun i=>coolL (tng u i)) x l).length=32)))):=by kernel_rfl
theorem mkL_len (N:Nat) (t:Nat→Nod) (x c:Int):(mkL N t x c).length=32:=by
 unfold mkL
 cases mkQ N t x c with
 |true=>exact shortW_len _
 |false=>rfl
theorem half64 {N:Nat} (h:N≤71):IntKind.u64.wrap ((N/2:Nat):Int)=((N/2:Nat):Int):=by
 have q:((List.range 72).all fun x=>IntKind.u64.wrap ((x/2:Nat):Int)==((x/2:Nat):Int))=true:=by decide+kernel
 exact eq_of_beq (List.all_eq_true.1 q N (List.mem_range.2 (by omega)))
theorem u64_nn (x:Int):0≤IntKind.u64.wrap x:=by
 show 0≤x%_
 exact Int.emod_nonneg _ (by decide)
theorem xK_ok {N:Nat} (h:N≤71) (h3:3≤N) (hN:N%2=1) (x:Int):∃y:Nat,xK N x=((2*y+1:Nat):Int)∧2*y+1<N∧1+IntKind.i64.wrap (2*IntKind.i64.wrap ((IntKind.u64.wrap x).tmod (IntKind.u64.wrap (IntKind.i64.wrap (((N:Nat):Int).tdiv 2)))))=((2*y+1:Nat):Int):=by
 unfold xK
 rw [halfN h,half64 h]
 have a:=u64_nn x
 have b:=Int.tmod_nonneg ((N/2:Nat):Int) a
 have c:=Int.tmod_lt_of_pos (IntKind.u64.wrap x) (b:=((N/2:Nat):Int)) (by omega)
 generalize (IntKind.u64.wrap x).tmod ((N/2:Nat):Int)=r at b c ⊢
 rw [wrapI (n:=r) (by omega) (by omega),wrapI (n:=2*r) (by omega) (by omega),wrapI (by omega) (by omega)]
 exact ⟨r.toNat,by omega,by omega,by omega⟩
theorem flT_zero (t:Nat→Nod) (b:Int) (a:Nat):flT t b a 0=t:=funext fun x=>flT_same b (by omega)
theorem fl_merge (t:Nat→Nod) (bb:Int) (a j:Nat) (hu:(t (2*(a+j))).used=true):(fun k=>mergeP (Nat.beq k (2*(a+j))) (nodK (flT t bb a j (2*(a+j))) bb).cells (tng (flT t bb a j) k))=tng (flT t bb a (j+1)):=by
 funext k
 rw [flT_step,beqN,flT_same bb (x:=2*(a+j)) (.inr (.inr (by omega)))]
 by_cases h:k=2*(a+j)
 ·subst h
  rw [decide_eq_true rfl]
  show (nodK (t (2*(a+j))) bb).cells=(bif decide (2*(a+j)=2*(a+j))&&(t (2*(a+j))).used then ({t (2*(a+j)) with key:=kyX bb (t (2*(a+j))).key}:Nod) else flT t bb a j (2*(a+j))).cells
  rw [decide_eq_true rfl,hu];rfl
 ·rw [decide_eq_false h]
  show (flT t bb a j k).cells=(bif decide (k=2*(a+j))&&(t k).used then ({t k with key:=kyX bb (t k).key}:Nod) else flT t bb a j k).cells
  rw [decide_eq_false h];rfl
theorem fl_stay (t:Nat→Nod) (bb:Int) (a j:Nat) (hu:(t (2*(a+j))).used=false):flT t bb a (j+1)=flT t bb a j:=by
 rw [flT_step]
 funext x
 by_cases h:x=2*(a+j)
 ·subst h;rw [hu,Bool.and_false];rfl
 ·rw [decide_eq_false h];rfl
section
variable {N:Nat} {t:Nat→Nod} {x bb:Int}
theorem keeps_main (hT:TOK N t) (hT0:okT0 N (tng t)=true) (g1:largeM N t=false) (hg:checkB N t=goodQ N t) (hc:checkB N t=true) (h3:3≤N):FnTr Tryz.prog 10 [.rol false 99 N (tng t),.int .i64 x,.int .u8 bb] [] (.bool true) []:=by
 have z1:okT0 N (fun i=>coolL (tng t i))=true:=hT0
 have ht:(treeOf fun i=>coolL (tng t i))=t:=rfl
 have hok:okT N (fun i=>coolL (tng t i))=true:=okT_tng hT
 have hle:=hT.le
 obtain ⟨n,hn,hlv,hN,_⟩:=check_parts hT hc
 have hs:=sizes_le hn
 obtain ⟨y,hx,hy,hx2⟩:=xK_ok hT.le h3 (by omega) x
 have hk:∃k,lvN 7 (2*y+1)=k+1:=by
  rw [lvN,show (2*y+1)%2=1 by omega]
  exact ⟨_,rfl⟩
 obtain ⟨k,hk⟩:=hk
 obtain ⟨a1,_,a3,_⟩:=kid_succ hn (show 2*y+1<2*n-1 by omega) hk
 have hnode:Tr.nodeB (leftV ((2*y+1:Nat):Int)) n=true:=by rw [a1];exact node_mk hn a3
 obtain ⟨b0,b1,b2⟩:=below_at hnode
 have keep:=fun (j:Nat) hj=>keep_mark hT hc hy (by omega) bb (j:=j) hj b0
 have hh:=kp_h N t x bb
 have hh':=kp_h' N t x bb
 rw [hx2] at hh'
 rw [hx] at hh
 generalize hl:leftV ((2*y+1:Nat):Int)=l at*
 generalize hX:((2*y+1:Nat):Int)=X at*
 obtain ⟨a,ha⟩:=Int.eq_ofNat_of_zero_le b0
 rw [ha,Int.toNat_natCast] at keep
 have q0:=(keep 0 (by omega)).1
 rw [q0] at hh
 generalize hm:mkL N t X l=m at*
 have hcn:∃c:Nat,(c:Int)=lastV l+1-firstV l:=⟨(lastV l+1-firstV l).toNat,by omega⟩
 obtain ⟨c,hcn⟩:=hcn
 have eT:=flT_zero t bb a
 have key:TrL Tryz.prog none 0 (atoms kpB) ⟨slots0 Tryz.f10.ntmps [.rol false 99 N (tng t),.int .i64 x,.int .u8 bb],[],true⟩ .ret ⟨slotsOf 103 [(6,.bool (decide (m=mkL N (flT t bb a c) X l)))],[],true⟩:=by
  refine TrL.itemsX (kpC_ok true _) 60 11 _ 2 (Nat.zero_le _) (s1:=kpS N (flT t bb a 0) X bb l (lastV l) m true ((a+0:Nat):Int)) _ (by rw [eT,Nat.add_zero, ←ha];exact hh) hh' ?_ (by decide) rfl ?_
  ·rw [ht,z1,g1,hok, ←hg,hc,hlv,halfN hT.le,half64 hT.le,wrapI (n:=X) (by omega) (by omega),hl,decide_eq_true hle,hnode,
    decide_eq_false (show ¬((N:Nat):Int)<3 by omega),decide_eq_true (show 0≤X by omega),decide_eq_true (show X<64 by omega),decide_eq_true (show ((N:Nat):Int)<72 by omega),decide_eq_true (show (0:Int)≤(n:Int) by omega),show (((N/2:Nat):Int) != 0)=true by simp;omega]
   rfl
  ·refine TrL.item 11 (by decide) (s1:=kpS N (flT t bb a c) X bb l (lastV l) m true ((a+c:Nat):Int)) (Tr.loop 0 (by kernel_rfl) (fun j=>kpS N (flT t bb a j) X bb l (lastV l) m true ((a+j:Nat):Int)) c (fun j hj=>?_) ?_) ?_
   ·have w2:IntKind.i64.wrap (2*((a+j:Nat):Int))=((2*(a+j):Nat):Int):=by rw [wrapI (by omega) (by omega)];omega
    have hi:2*(a+j)<N:=by omega
    have p1:decide (((a+j:Nat):Int)≤lastV l)=true:=decide_eq_true (by omega)
    cases hu:(t (2*(a+j))).used with
    |true=>
     have e:=kp_on N (flT t bb a j) X bb l (lastV l) m true ((a+j:Nat):Int)
     have e':=kp_on' N (flT t bb a j) X bb l (lastV l) m true ((a+j:Nat):Int)
     rw [w2,Int.toNat_natCast,wrapS (by omega),fl_merge t bb a j hu] at e
     refine Tr.cutX (kpC_ok true _) 60 _ 2 (Nat.zero_le _) (s':=kpS N (flT t bb a (j+1)) X bb l (lastV l) m true ((a+(j+1):Nat):Int)) _ e e' ?_
     rw [w2,Int.toNat_natCast,p1,inBN hi,decide_eq_true hi,show (flT t bb a j (2*(a+j))).1=true from hu,decide_eq_true ((flT_ok hT bb a j).key _ hi)]
     rfl
    |false=>
     have e:=kp_of N (flT t bb a j) X bb l (lastV l) m true ((a+j:Nat):Int)
     have e':=kp_of' N (flT t bb a j) X bb l (lastV l) m true ((a+j:Nat):Int)
     rw [wrapS (by omega)] at e
     refine Tr.cutX (kpC_ok true _) 60 _ 2 (Nat.zero_le _) (s':=kpS N (flT t bb a (j+1)) X bb l (lastV l) m true ((a+(j+1):Nat):Int)) _ (by rw [fl_stay t bb a j hu];exact e) e' ?_
     rw [w2,Int.toNat_natCast,p1,inBN hi,decide_eq_true hi,show (flT t bb a j (2*(a+j))).1=false from hu]
     rfl
   ·exact Tr.cutX (kpC_ok true _) 60 _ 2 (Nat.zero_le _) _ (kp_end N (flT t bb a c) X bb l (lastV l) m true ((a+c:Nat):Int)) (kp_end' N (flT t bb a c) X bb l (lastV l) m true ((a+c:Nat):Int)) (by rw [decide_eq_false (show ¬((a+c:Nat):Int)≤lastV l by omega)];rfl)
   ·refine TrL.cutA (kpC_ok true _) 60 _ 0 (Nat.zero_le _) _ (kp_r N (flT t bb a c) X bb l (lastV l) m ((a+c:Nat):Int)) (kp_r' N (flT t bb a c) X bb l (lastV l) m ((a+c:Nat):Int)) ?_ (by intro q;cases q)
    have r1:okT N (fun i=>coolL (tng (flT t bb a c) i))=true:=okT_tng (flT_ok hT bb a c)
    have r2:=(keep c (by omega)).2.1
    have l1:m.length=32:=by rw [←hm];exact mkL_len ..
    rw [show mkQ N (treeOf fun i=>coolL (tng (flT t bb a c) i)) X l=true from r2,r1,decide_eq_true hle,decide_eq_true (Nat.le_refl N),decide_eq_true l1,decide_eq_true (mkL_len N (treeOf fun i=>coolL (tng (flT t bb a c) i)) X l)]
    rfl
 have fin:FnTr Tryz.prog 10 [.rol false 99 N (tng t),.int .i64 x,.int .u8 bb] [] (.bool (decide (m=mkL N (flT t bb a c) X l))) []:=
  FnTr.mk (h:=[]) (args:=[.rol false 99 N (tng t),.int .i64 x,.int .u8 bb]) (s:=⟨slotsOf 103 [(6,.bool (decide (m=mkL N (flT t bb a c) X l)))],[],true⟩) (vs:=[.bool (decide (m=mkL N (flT t bb a c) X l))]) Tryz.func10 rfl (x:=.ret) key (.inl rfl) (by kernel_rfl)
 rw [decide_eq_true (show m=mkL N (flT t bb a c) X l from (keep c (by omega)).2.2.symm)] at fin
 exact fin
theorem keeps_all (hT0:okT0 N (tng t)=true):FnTr Tryz.prog 10 [.rol false 99 N (tng t),.int .i64 x,.int .u8 bb] [] (.bool true) []:=by
 have z1:okT0 N (fun i=>coolL (tng t i))=true:=hT0
 have ht:(treeOf fun i=>coolL (tng t i))=t:=rfl
 cases g1:largeM N t with
 |true=>exact call0 (kpC_ok _ _) 60 Tryz.func10 (kp_a N t x bb) (by rw [ht,z1,g1];rfl) rfl
 |false=>
 have hT:=okT0_up hT0 (largeM_un g1)
 have h1:okT N (fun i=>coolL (tng t i))=true:=hT
 have e1:N≤71:=by have:=largeM_le g1;omega
 have hg:checkB N t=goodQ N t:=check_good (t:=t) e1
 cases hc:checkB N t with
 |false=>exact call0 (kpC_ok _ _) 60 Tryz.func10 (kp_b N t x bb) (by rw [ht,z1,g1,h1,decide_eq_true e1, ←hg,hc];rfl) rfl
 |true=>
 by_cases h3:((N:Nat):Int)<3
 ·exact call0 (kpC_ok _ _) 60 Tryz.func10 (kp_c N t x bb) (by rw [ht,z1,g1,h1,decide_eq_true e1, ←hg,hc,decide_eq_true h3];rfl) rfl
 ·exact keeps_main (TOK.of hT e1) hT0 g1 hg hc (by omega)
end
theorem markKeeps_law {N:Nat} {t:Nat→Nod} {x y:Int} (hT0:okT0 N (tng t)=true) (_:∀i,i<N→(t i).OK) (_:0≤y∧y<256):FnTr Tryz.prog 10 [.rol false 99 N (tng t),.int .i64 x,.int .u8 y] [] (.bool true) []:=keeps_all hT0
end Go.Proofs.YthlnlcijnoadcaaGreatDoor.Mk
end
