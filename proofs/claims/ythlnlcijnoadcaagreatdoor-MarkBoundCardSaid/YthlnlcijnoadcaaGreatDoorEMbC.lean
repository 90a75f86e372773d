/- This file holds the texts MkM, MbP, MbA, MbB, MbC, a section each. No conditions beyond those in the theorems. -/
import Derived.Test.YthlnlcijnoadcaaGreatDoorEMkL
import Derived.Test.YthlnlcijnoadcaaGreatDoorETtH
import Derived.Test.YthlnlcijnoadcaaGreatDoorETtL
import Derived.Test.YthlnlcijnoadcaaGreatDoorEShC
set_option linter.all false
set_option maxRecDepth 100000
section
namespace Go.Proofs.YthlnlcijnoadcaaGreatDoor.Mk
open Go Go.Sy Tr Wi S2
open Q2 (shortQ shortDRE By shortW_eq)
def mkQ (N:Nat) (t:Nat→Nod) (x c:Int):Bool:=dgQ N t x&&(decide (0≤c)&&(c==leftV x||c==rightV x))
noncomputable def markW (t:Nat→Nod) (x s:Int):List Int:=shortW [[3],(t x.toNat).key,(t x.toNat).par,digV t (t x.toNat).un s].flatten
section
variable {N:Nat} {t:Nat→Nod} {x c:Int}
theorem mkQ_ok (hT:TOK N t) (h:mkQ N t x c=true):checkB N t=true∧0≤x∧x<N∧x<64∧0≤leftV x∧leftV x<N∧0≤rightV x∧rightV x<N∧(N:Int)≤71∧(c=leftV x∨c=rightV x)∧leftV x≠rightV x:=by
 unfold mkQ dgQ at h
 simp only [Bool.and_eq_true,Bool.or_eq_true,decide_eq_true_eq,beq_iff_eq] at h
 obtain ⟨⟨⟨h0,h1⟩,hc⟩,h2,h3⟩:=h
 obtain ⟨n,hn,_,hN,_⟩:=check_parts hT hc
 have hs:=sizes_le hn
 obtain ⟨y,rfl⟩:=Int.eq_ofNat_of_zero_le h0
 have hle:=hT.le
 cases hl:lvN 7 y with
 |zero=>
  obtain ⟨a,b⟩:=kid_zero hn (show y<2*n-1 by omega) hl
  omega
 |succ k=>
  obtain ⟨a1,a2,a3,a4,_,_,a7⟩:=kid_succ hn (show y<2*n-1 by omega) hl
  have hp:1≤2^k:=Nat.one_le_two_pow
  refine ⟨hc,h0,h1,by omega,by omega,by omega,by omega,by omega,by omega,h3,by omega⟩
end
noncomputable def mrC (l:List (Nat×Bool)):Ctr:=mk (P:=Tryz.prog) [childrenE,digE 8 (digest_fn 8),shortE] [] (uT l)
theorem mrC_ok (l:List (Nat×Bool)):CtrSound Tryz.prog (mrC l):=mk_sound _ InlOK.nil _ _
theorem mr_a (N:Nat) (t:Nat→Nod) (x c:Int):(callS Tryz.prog (mrC []) 60 Tryz.f83 [.rol false 99 N (tng t),.int .i64 x,.int .i64 c] []).map (fun x=>(x.1,x.2.2))=some (.agg [.ints .u8 32 (markW t x (IntKind.i64.wrap (IntKind.i64.wrap (leftV x+rightV x)-c)))],andT (andT (andT (andT (andT (andT (andT (andT (andT (andT true (andT true (decide (0≤x)&&decide (x<64)))) (inB x N)) (true&&(decide (x.toNat<N)&&true))) (andT true ((okT N fun i=>coolL (tng t i))&&decide (N≤71)&&digOK N (treeOf fun i=>coolL (tng t i)) (t x.toNat).un (IntKind.i64.wrap (IntKind.i64.wrap (leftV x+rightV x)-c)) 8))) (inB x N)) (true&&(decide (x.toNat<N)&&true&&true&&decide ((t x.toNat).key.length=32)))) (inB x N)) (true&&(decide (x.toNat<N)&&true&&true&&decide ((t x.toNat).par.length=32)))) (andT true (decide (0+0+32≤psize ([]++[SV.ints IntKind.u8 32 (digV (treeOf fun i=>coolL (tng t i)) (t x.toNat).un (IntKind.i64.wrap (IntKind.i64.wrap (leftV x+rightV x)-c)))]++[]))))) (andT (andT true (andT (andT true (decide ((digV (treeOf fun i=>coolL (tng t i)) (t x.toNat).un (IntKind.i64.wrap (IntKind.i64.wrap (leftV x+rightV x)-c))).length=32)&&true)) (decide ((digV (treeOf fun i=>coolL (tng t i)) (t x.toNat).un (IntKind.i64.wrap (IntKind.i64.wrap (leftV x+rightV x)-c))).length=32)))) (decide (([(List.replicate 1 0).set 0 3,(t x.toNat).key,(t x.toNat).par,digV (treeOf fun i=>coolL (tng t i)) (t x.toNat).un (IntKind.i64.wrap (IntKind.i64.wrap (leftV x+rightV x)-c))],andT (andT (andT (andT true (decide ((digV (treeOf fun i=>coolL (tng t i)) (t x.toNat).un (IntKind.i64.wrap (IntKind.i64.wrap (leftV x+rightV x)-c))).length=32)&&(decide ((32)≤32)&&decide ((0+0)=0)))) (decide ((digV (treeOf fun i=>coolL (tng t i)) (t x.toNat).un (IntKind.i64.wrap (IntKind.i64.wrap (leftV x+rightV x)-c))).length=32))) (decide (((List.replicate 1 0).set 0 3).length=1)&&(decide (1≤1)&&decide (0=0)))) (decide (((List.replicate 1 0).set 0 3).length=1))).fst.flatten.length<274877900000)&&decide (([(List.replicate 1 0).set 0 3,(t x.toNat).key,(t x.toNat).par,digV (treeOf fun i=>coolL (tng t i)) (t x.toNat).un (IntKind.i64.wrap (IntKind.i64.wrap (leftV x+rightV x)-c))],andT (andT (andT (andT true (decide ((digV (treeOf fun i=>coolL (tng t i)) (t x.toNat).un (IntKind.i64.wrap (IntKind.i64.wrap (leftV x+rightV x)-c))).length=32)&&(decide ((32)≤32)&&decide ((0+0)=0)))) (decide ((digV (treeOf fun i=>coolL (tng t i)) (t x.toNat).un (IntKind.i64.wrap (IntKind.i64.wrap (leftV x+rightV x)-c))).length=32))) (decide (((List.replicate 1 0).set 0 3).length=1)&&(decide (1≤1)&&decide (0=0)))) (decide (((List.replicate 1 0).set 0 3).length=1))).fst.length≤274877906944)))):=by kernel_rfl
noncomputable def rmkC (l:List (Nat×Bool)):Ctr:=mk (P:=Tryz.prog) [rChildrenE,rDigestE,shortDRE] [] (uT l)
theorem rmkC_ok (l:List (Nat×Bool)):CtrSound Tryz.prog (rmkC l):=mk_sound _ InlOK.nil _ _
theorem rmk_l (N:Nat) (t:Nat→Nod) (x c:Int):(callS Tryz.prog (rmkC [(20,true),(43,true),(45,true)]) 60 Tryz.f42 [.rol false 99 N (tng t),.int .i64 x,.int .i64 c] []).map (fun x=>(x.1,x.2.2))=some (.agg [.ints .u8 32 (shortQ ((([3]++(t x.toNat).key)++(t x.toNat).par)++digV t (t x.toNat).un (rightV x)))],andT (andT (andT (andT (andT (andT (andT (andT (andT (andT (andT (andT (andT true (andT true (decide (0≤x)&&decide (x<64)))) (c==leftV x)) (inB x N)) (true&&(decide (x.toNat<N)&&true))) (andT true ((okT N fun i=>coolL (tng t i))&&decide (N≤71)&&decide ((t x.toNat).un.length≤274877906944)&&dgQ N (treeOf fun i=>coolL (tng t i)) (rightV x)&&bytT N (treeOf fun i=>coolL (tng t i))))) (inB x N)) (true&&(decide (x.toNat<N)&&true&&true&&decide ((t x.toNat).key.length=32)))) (andT true (decide (1+(t x.toNat).key.length≤2^38)))) (inB x N)) (true&&(decide (x.toNat<N)&&true&&true&&decide ((t x.toNat).par.length=32)))) (andT (andT (andT true (decide (((List.replicate 1 0).set 0 3++(t x.toNat).key).length=1+(t x.toNat).key.length)&&(decide (1+(t x.toNat).key.length≤1+(t x.toNat).key.length)&&true))) (decide (((List.replicate 1 0).set 0 3++(t x.toNat).key).length=1+(t x.toNat).key.length))) (decide (1+(t x.toNat).key.length+(t x.toNat).par.length≤2^38)))) (andT (andT (andT (decide ((digV (treeOf fun i=>coolL (tng t i)) (t x.toNat).un (rightV x)).length=32)&&true) (decide (((List.replicate 1 0).set 0 3++(t x.toNat).key++(t x.toNat).par).length=1+(t x.toNat).key.length+(t x.toNat).par.length)&&(decide (1+(t x.toNat).key.length+(t x.toNat).par.length≤1+(t x.toNat).key.length+(t x.toNat).par.length)&&true))) (decide (((List.replicate 1 0).set 0 3++(t x.toNat).key++(t x.toNat).par).length=1+(t x.toNat).key.length+(t x.toNat).par.length))) (decide ((1+(t x.toNat).key.length+(t x.toNat).par.length+32)≤2^38)))) (andT (andT (decide (((List.replicate 1 0).set 0 3++(t x.toNat).key++(t x.toNat).par++digV (treeOf fun i=>coolL (tng t i)) (t x.toNat).un (rightV x)).length=1+(t x.toNat).key.length+(t x.toNat).par.length+32)&&(decide ((1+(t x.toNat).key.length+(t x.toNat).par.length+32)≤1+(t x.toNat).key.length+(t x.toNat).par.length+32)&&true)) (decide (((List.replicate 1 0).set 0 3++(t x.toNat).key++(t x.toNat).par++digV (treeOf fun i=>coolL (tng t i)) (t x.toNat).un (rightV x)).length=1+(t x.toNat).key.length+(t x.toNat).par.length+32))) (decide (((List.replicate 1 0).set 0 3++(t x.toNat).key++(t x.toNat).par++digV (treeOf fun i=>coolL (tng t i)) (t x.toNat).un (rightV x)).length<274877900000)))):=by kernel_rfl
theorem rmk_r (N:Nat) (t:Nat→Nod) (x c:Int):(callS Tryz.prog (rmkC [(20,false),(43,true),(45,true)]) 60 Tryz.f42 [.rol false 99 N (tng t),.int .i64 x,.int .i64 c] []).map (fun x=>(x.1,x.2.2))=some (.agg [.ints .u8 32 (shortQ ((([3]++(t x.toNat).key)++(t x.toNat).par)++digV t (t x.toNat).un (leftV x)))],andT (andT (andT (andT (andT (andT (andT (andT (andT (andT (andT (andT (andT true (andT true (decide (0≤x)&&decide (x<64)))) !c==leftV x) (inB x N)) (true&&(decide (x.toNat<N)&&true))) (andT true ((okT N fun i=>coolL (tng t i))&&decide (N≤71)&&decide ((t x.toNat).un.length≤274877906944)&&dgQ N (treeOf fun i=>coolL (tng t i)) (leftV x)&&bytT N (treeOf fun i=>coolL (tng t i))))) (inB x N)) (true&&(decide (x.toNat<N)&&true&&true&&decide ((t x.toNat).key.length=32)))) (andT true (decide (1+(t x.toNat).key.length≤2^38)))) (inB x N)) (true&&(decide (x.toNat<N)&&true&&true&&decide ((t x.toNat).par.length=32)))) (andT (andT (andT true (decide (((List.replicate 1 0).set 0 3++(t x.toNat).key).length=1+(t x.toNat).key.length)&&(decide (1+(t x.toNat).key.length≤1+(t x.toNat).key.length)&&true))) (decide (((List.replicate 1 0).set 0 3++(t x.toNat).key).length=1+(t x.toNat).key.length))) (decide (1+(t x.toNat).key.length+(t x.toNat).par.length≤2^38)))) (andT (andT (andT (decide ((digV (treeOf fun i=>coolL (tng t i)) (t x.toNat).un (leftV x)).length=32)&&true) (decide (((List.replicate 1 0).set 0 3++(t x.toNat).key++(t x.toNat).par).length=1+(t x.toNat).key.length+(t x.toNat).par.length)&&(decide (1+(t x.toNat).key.length+(t x.toNat).par.length≤1+(t x.toNat).key.length+(t x.toNat).par.length)&&true))) (decide (((List.replicate 1 0).set 0 3++(t x.toNat).key++(t x.toNat).par).length=1+(t x.toNat).key.length+(t x.toNat).par.length))) (decide ((1+(t x.toNat).key.length+(t x.toNat).par.length+32)≤2^38)))) (andT (andT (decide (((List.replicate 1 0).set 0 3++(t x.toNat).key++(t x.toNat).par++digV (treeOf fun i=>coolL (tng t i)) (t x.toNat).un (leftV x)).length=1+(t x.toNat).key.length+(t x.toNat).par.length+32)&&(decide ((1+(t x.toNat).key.length+(t x.toNat).par.length+32)≤1+(t x.toNat).key.length+(t x.toNat).par.length+32)&&true)) (decide (((List.replicate 1 0).set 0 3++(t x.toNat).key++(t x.toNat).par++digV (treeOf fun i=>coolL (tng t i)) (t x.toNat).un (leftV x)).length=1+(t x.toNat).key.length+(t x.toNat).par.length+32))) (decide (((List.replicate 1 0).set 0 3++(t x.toNat).key++(t x.toNat).par++digV (treeOf fun i=>coolL (tng t i)) (t x.toNat).un (leftV x)).length<274877900000)))):=by kernel_rfl
section
variable {N:Nat} {t:Nat→Nod} {x c:Int}
theorem mark_fn (hT:TOK N t) (h:mkQ N t x c=true):FnTr Tryz.prog 83 [.rol false 99 N (tng t),.int .i64 x,.int .i64 c] [] (.agg [.ints .u8 32 (markW t x (leftV x+rightV x-c))]) []:=by
 obtain ⟨hc,h0,h1,h2,h3,h4,h5,h6,h7,h8,h9⟩:=mkQ_ok hT h
 have hok:okT N (fun i=>coolL (tng t i))=true:=okT_tng hT
 have ht:(treeOf fun i=>coolL (tng t i))=t:=rfl
 have e:=mr_a N t x c
 rw [wrapI (n:=leftV x+rightV x) (by omega) (by omega),wrapI (n:=leftV x+rightV x-c) (by omega) (by omega)] at e
 have hi:x.toNat<N:=by omega
 have hw:=hT.un x.toNat hi
 have hd:=check_dig hT hc hw (x:=leftV x+rightV x-c) (by omega) (by omega)
 have hin:inB x N=true:=by
  obtain ⟨y,rfl⟩:=Int.eq_ofNat_of_zero_le h0
  exact inBN (by omega)
 have l1:=hT.key x.toNat hi
 have l2:=hT.par x.toNat hi
 have l3:=digV_len t (t x.toNat).un (leftV x+rightV x-c)
 refine call0 (mrC_ok []) 60 Tryz.func83 e ?_ rfl
 rw [ht,hok,hin,hd,decide_eq_true hi,decide_eq_true hT.le,decide_eq_true h0,decide_eq_true h2]
 simp [andT_iff,l1,l2,l3,psize,psz]
theorem rMark_fn (hT:TOK N t) (h:mkQ N t x c=true) (hb:bytT N t=true):FnTr Tryz.prog 42 [.rol false 99 N (tng t),.int .i64 x,.int .i64 c] [] (.agg [.ints .u8 32 (markW t x (leftV x+rightV x-c))]) []:=by
 obtain ⟨hc,h0,h1,h2,h3,h4,h5,h6,h7,h8,h9⟩:=mkQ_ok hT h
 have hok:okT N (fun i=>coolL (tng t i))=true:=okT_tng hT
 have ht:(treeOf fun i=>coolL (tng t i))=t:=rfl
 have hi:x.toNat<N:=by omega
 have hw:=hT.un x.toNat hi
 have hin:inB x N=true:=by
  obtain ⟨y,rfl⟩:=Int.eq_ofNat_of_zero_le h0
  exact inBN (by omega)
 have l1:=hT.key x.toNat hi
 have l2:=hT.par x.toNat hi
 have ok:=bytT_ok hT hb x.toNat hi
 have eq:∀s,markW t x s=shortQ ((([3]++(t x.toNat).key)++(t x.toNat).par)++digV t (t x.toNat).un s):=fun s=>by
  have l3:=digV_len t (t x.toNat).un s
  have hby:By (digV t (t x.toNat).un s):=by
   unfold digV
   cases lvN 7 s.toNat<;>(unfold digL;exact short_by _)
  have e:[[3],(t x.toNat).key,(t x.toNat).par,digV t (t x.toNat).un s].flatten=(([3]++(t x.toNat).key)++(t x.toNat).par)++digV t (t x.toNat).un s:=by
   simp only [List.flatten_cons,List.flatten_nil,List.append_nil,List.append_assoc]
  unfold markW
  rw [e]
  refine shortW_eq (by_app (by_app (by_app (by intro z hz;simp at hz;omega) ok.key.2) ok.par.2) hby) ?_
  simp only [List.length_append,List.length_cons,List.length_nil,l1,l2,l3];omega
 have q1:∀s:Int,0≤s→s<N→dgQ N t s=true:=fun s a b=>by unfold dgQ;rw [hc,decide_eq_true a,decide_eq_true b];rfl
 have dw:=decide_eq_true hw
 by_cases hcl:c=leftV x
 ·have e:=rmk_l N t x c
  rw [←eq] at e
  rw [show leftV x+rightV x-c=rightV x by omega]
  refine call0 (rmkC_ok _) 60 Tryz.func42 e ?_ rfl
  have l3:=digV_len t (t x.toNat).un (rightV x)
  rw [ht,hok,hin,q1 _ h5 h6,hb,dw,decide_eq_true hi,decide_eq_true hT.le,decide_eq_true h0,decide_eq_true h2,show (c==leftV x)=true from beq_iff_eq.2 hcl]
  simp [andT_iff,l1,l2,l3,psize,psz]
 ·have e:=rmk_r N t x c
  rw [←eq] at e
  rw [show leftV x+rightV x-c=leftV x by omega]
  refine call0 (rmkC_ok _) 60 Tryz.func42 e ?_ rfl
  have l3:=digV_len t (t x.toNat).un (leftV x)
  rw [ht,hok,hin,q1 _ h3 h4,hb,dw,decide_eq_true hi,decide_eq_true hT.le,decide_eq_true h0,decide_eq_true h2,show (c==leftV x)=false from beq_false_of_ne hcl]
  simp [andT_iff,l1,l2,l3,psize,psz]
end
noncomputable def markE:Entry Tryz.prog:=.val 83 _ Tryz.func83 (by decide) rfl true 0 (fun vs=>match vs with
 | [.rol false 99 N g,.int .i64 x,.int .i64 c]=>some (.agg [.ints .u8 32 (markW (treeOf g) x (leftV x+rightV x-c))],[],okT N g&&decide (N≤71)&&mkQ N (treeOf g) x c)
 |_=>none) fun vs v new e=>by
 split at e
 ·simp only [Option.some.injEq,Prod.mk.injEq,Bool.and_eq_true,decide_eq_true_eq] at e
  obtain ⟨rfl,rfl,⟨h1,h2⟩,h3⟩:=e
  exact FnTr.conv (mark_fn (TOK.of h1 h2) h3) ⟨VE.tree h1,VE.refl _,VE.refl _,trivial⟩ trivial (VE.refl _) trivial
 ·cases e
noncomputable def rMarkE:Entry Tryz.prog:=.val 42 _ Tryz.func42 (by decide) rfl true 0 (fun vs=>match vs with
 | [.rol false 99 N g,.int .i64 x,.int .i64 c]=>some (.agg [.ints .u8 32 (markW (treeOf g) x (leftV x+rightV x-c))],[],okT N g&&decide (N≤71)&&mkQ N (treeOf g) x c&&bytT N (treeOf g))
 |_=>none) fun vs v new e=>by
 split at e
 ·simp only [Option.some.injEq,Prod.mk.injEq,Bool.and_eq_true,decide_eq_true_eq] at e
  obtain ⟨rfl,rfl,⟨⟨h1,h2⟩,h3⟩,h4⟩:=e
  exact FnTr.conv (rMark_fn (TOK.of h1 h2) h3 h4) ⟨VE.tree h1,VE.refl _,VE.refl _,trivial⟩ trivial (VE.refl _) trivial
 ·cases e
section
variable {N:Nat} {t:Nat→Nod} {x c:Int}
end
end Go.Proofs.YthlnlcijnoadcaaGreatDoor.Mk
end
section
namespace Go.Proofs.YthlnlcijnoadcaaGreatDoor.Mk
open Go Go.Sy Tr Wi S2
def ownL (un:List Int) (c:Int):List Int:=(un.filter fun i=>decide (i≥firstV c)&&decide (i≤lastV c)).map (2* ·)
def restL (L:List Int) (k:Nat):List Int:=L.take k++L.drop (k+1)
def badJ (L un:List Int) (k j:Nat):Bool:=(((j:Nat):Int) != ((k:Nat):Int))&&(((L.getD j 0).tmod 2==1)||!inQ ((L.getD j 0).tdiv 2) un)
def fndJ (L:List Int) (k:Nat) (i:Int) (m:Nat):Bool:=(((m:Nat):Int) != ((k:Nat):Int))&&(L.getD m 0==2*i)
def fndQ (L:List Int) (k:Nat) (i:Int):Bool:=(List.range L.length).any (fndJ L k i)
def sameQ (L un:List Int) (c:Int) (n k:Nat):Bool:=(List.range L.length).all (fun j=>!badJ L un k j)&&(List.range un.length).all fun j=>!abvB c (2*un.getD j 0) n||fndQ L k (un.getD j 0)
theorem mem_rest {L:List Int} {k:Nat} {e:Int}:e∈restL L k↔∃m,m<L.length∧m≠k∧L.getD m 0=e:=by
 unfold restL
 rw [←List.eraseIdx_eq_take_drop_succ,List.mem_eraseIdx_iff_getElem]
 constructor
 ·rintro ⟨i,h,h1,h2⟩
  exact ⟨i,h,h1,by rw [getD_get h];exact h2⟩
 ·rintro ⟨i,h,h1,h2⟩
  exact ⟨i,h,h1,by rw [getD_get h] at h2;exact h2⟩
theorem rest_nodup {L:List Int} (h:L.Nodup) (k:Nat):(restL L k).Nodup:=by
 unfold restL
 rw [←List.eraseIdx_eq_take_drop_succ]
 exact List.Nodup.sublist (List.eraseIdx_sublist L k) h
theorem own_rise {un:List Int} (h:un.Pairwise (· < ·)) (c:Int):(ownL un c).Pairwise (· < ·):=by
 unfold ownL
 rw [List.pairwise_map]
 exact (h.filter _).imp fun h=>by omega
theorem perm_nodup {a b:List Int} (ha:a.Nodup) (hb:b.Nodup) (h:∀e,e∈a↔e∈b):a.Perm b:=by
 rw [List.perm_iff_count]
 intro e
 by_cases q:e∈a
 ·rw [count_one ha q,count_one hb ((h e).1 q)]
 ·rw [List.count_eq_zero.2 q,List.count_eq_zero.2 (fun r=>q ((h e).2 r))]
theorem sort_iff {a b:List Int} (ha:a.Nodup) (hb:b.Pairwise (· < ·)):sortL a=b↔∀e,e∈a↔e∈b:=by
 unfold sortL
 rw [Lock_eq]
 have hp:=List.mergeSort_perm a fun x y=>decide (x≤y)
 constructor
 ·intro h e
  rw [←h];exact hp.mem_iff.symm
 ·intro h
  have hs:(a.mergeSort fun x y=>decide (x≤y)).Pairwise fun x y=>(decide (x≤y))=true:=List.pairwise_mergeSort (fun x y z h1 h2=>by simp at*;omega) (fun x y=>by simp;omega) a
  have hn:b.Nodup:=hb.imp fun h=>by omega
  refine List.Perm.eq_of_pairwise (le:=fun x y=>decide (x≤y)=true) (fun x y _ _ h1 h2=>by simp at*;omega) hs (hb.imp fun h=>by simp;omega) (hp.trans (perm_nodup ha hn h))
theorem same_iff {L un:List Int} {c:Int} {n k:Nat} (hL:L.Nodup) (hr:∀e∈L,0≤e∧2*firstV c≤e∧e≤2*lastV c) (hu:un.Pairwise (· < ·)) (h0:∀u∈un,0≤u∧u<n) (hc:nodeB c n=true):
  decide (sortL (restL L k)=ownL un c)=sameQ L un c n k:=by
 have hab:∀u∈un,abvB c (2*u) n=(decide (firstV c≤u)&&decide (u≤lastV c)):=fun u hm=>by
  obtain ⟨a,b⟩:=h0 u hm
  obtain ⟨y,rfl⟩:=Int.eq_ofNat_of_zero_le a
  exact abv_at hc (by omega)
 rw [Bool.eq_iff_iff,decide_eq_true_eq,sort_iff (rest_nodup hL k) (own_rise hu c)]
 have own:∀e,e∈ownL un c↔∃u∈un,firstV c≤u∧u≤lastV c∧2*u=e:=fun e=>by
  unfold ownL
  rw [List.mem_map]
  constructor
  ·rintro ⟨u,hm,rfl⟩
   rw [List.mem_filter,Bool.and_eq_true,decide_eq_true_eq,decide_eq_true_eq] at hm
   exact ⟨u,hm.1,hm.2.1,hm.2.2,rfl⟩
  ·rintro ⟨u,hm,h1,h2,rfl⟩
   exact ⟨u,List.mem_filter.2 ⟨hm,by rw [Bool.and_eq_true,decide_eq_true_eq,decide_eq_true_eq];exact ⟨h1,h2⟩⟩,rfl⟩
 have ev:∀e:Int,0≤e→(e.tmod 2==1)=false→2*e.tdiv 2=e:=fun e h h1=>by
  have h1:=beq_eq_false_iff_ne.1 h1
  obtain ⟨y,rfl⟩:=Int.eq_ofNat_of_zero_le h
  rw [show (2:Int)=((2:Nat):Int) from rfl, ←Int.ofNat_tmod] at h1
  rw [show (2:Int)=((2:Nat):Int) from rfl, ←Int.ofNat_tdiv]
  omega
 have ev2:∀u:Int,0≤u→((2*u).tmod 2==1)=false∧(2*u).tdiv 2=u:=fun u h=>by
  obtain ⟨y,rfl⟩:=Int.eq_ofNat_of_zero_le h
  rw [show 2*(y:Int)=((2*y:Nat):Int) by omega,show (2:Int)=((2:Nat):Int) from rfl, ←Int.ofNat_tmod, ←Int.ofNat_tdiv,beq_eq_false_iff_ne]
  omega
 unfold sameQ
 rw [Bool.and_eq_true,List.all_eq_true,List.all_eq_true]
 constructor
 ·intro h
  refine ⟨fun j hj=>?_,fun j hj=>?_⟩
  ·have hj:=List.mem_range.1 hj
   unfold badJ
   by_cases e:j=k
   ·subst e
    rw [show (((j:Nat):Int) != ((j:Nat):Int))=false by simp];rfl
   ·obtain ⟨u,hm,a,b,e2⟩:=(own _).1 ((h (L.getD j 0)).1 (mem_rest.2 ⟨j,hj,e,rfl⟩))
    obtain ⟨q1,q2⟩:=ev2 u (h0 u hm).1
    rw [←e2,q1,q2,inQ_mem.2 hm]
    simp
  ·have hj:=List.mem_range.1 hj
   have hm:un.getD j 0∈un:=by rw [getD_get hj];exact List.getElem_mem hj
   cases hv:abvB c (2*un.getD j 0) n with
   |false=>rfl
   |true=>
    rw [hab _ hm,Bool.and_eq_true,decide_eq_true_eq,decide_eq_true_eq] at hv
    obtain ⟨m,m1,m2,m3⟩:=mem_rest.1 ((h (2*un.getD j 0)).2 ((own _).2 ⟨_,hm,hv.1,hv.2,rfl⟩))
    rw [Bool.not_true,Bool.false_or]
    refine List.any_eq_true.2 ⟨m,List.mem_range.2 m1,?_⟩
    unfold fndJ
    rw [m3,Bool.and_eq_true]
    exact ⟨by simpa using fun q:(m:Int)=k=>m2 (by omega),beq_iff_eq.2 rfl⟩
 ·rintro ⟨h1,h2⟩ e
  constructor
  ·intro he
   obtain ⟨m,m1,m2,rfl⟩:=mem_rest.1 he
   have:=h1 m (List.mem_range.2 m1)
   unfold badJ at this
   rw [show (((m:Nat):Int) != ((k:Nat):Int))=true by simpa using fun q:(m:Int)=k=>m2 (by omega)] at this
   simp only [Bool.true_and,Bool.not_eq_true',Bool.or_eq_false_iff,Bool.not_eq_false'] at this
   have hm:L.getD m 0∈L:=by rw [getD_get m1];exact List.getElem_mem m1
   obtain ⟨r0,r1,r2⟩:=hr _ hm
   have q:=ev _ r0 this.1
   exact (own _).2 ⟨_,inQ_mem.1 this.2,by omega,by omega,q⟩
  ·intro he
   obtain ⟨u,hm,a,b,rfl⟩:=(own _).1 he
   obtain ⟨j,hj,e⟩:=List.getElem_of_mem hm
   have:=h2 j (List.mem_range.2 hj)
   rw [getD_get hj,e,hab u hm,decide_eq_true a,decide_eq_true b,Bool.and_self,Bool.not_true,Bool.false_or] at this
   obtain ⟨m,m1,m2⟩:=List.any_eq_true.1 this
   unfold fndJ at m2
   rw [Bool.and_eq_true,beq_iff_eq] at m2
   exact mem_rest.2 ⟨m,List.mem_range.1 m1,fun q=>(by have:=m2.1;rw [q] at this;simp at this),m2.2⟩
section
variable {N n:Nat} {t:Nat→Nod}
theorem res_ok (hn:n∈sizes) (hN:N=2*n-1) (F:∀x,x<N→NodF t n x):∀(k y:Nat),y<N→lvN 7 y=k→(resL t k y).Nodup∧∀e∈resL t k y,0≤e∧2*firstV (y:Int)≤e∧e≤2*lastV (y:Int):=by
 have own:∀k y:Nat,y<N→lvN 7 y=k→2*firstV (y:Int)≤(y:Int)∧(y:Int)≤2*lastV (y:Int):=fun k y hy hk=>by
  have hp:(1:Int)≤2^k:=by have:=Nat.one_le_two_pow (n:=k);norm_cast
  cases k with
  |zero=>
   obtain ⟨e0,e1,e2⟩:=lvl_zero hn (hN▸hy) hk
   rw [e1,e2];omega
  |succ k=>
   have hq:(1:Int)≤2^k:=by have:=Nat.one_le_two_pow (n:=k);norm_cast
   have e:(2:Int)^(k+1)=2*2^k:=by rw [Int.pow_succ];omega
   unfold firstV lastV
   rw [Int.toNat_natCast,hk,e]
   omega
 have used:∀k y:Nat,y<N→lvN 7 y=k→(t y).used=true→(resL t k y).Nodup∧∀e∈resL t k y,0≤e∧2*firstV (y:Int)≤e∧e≤2*lastV (y:Int):=fun k y hy hk hu=>by
  obtain ⟨f1,f2,f3,f4,f5⟩:=F y hy
  obtain ⟨o1,o2⟩:=own k y hy hk
  rw [resL_used hu]
  refine ⟨List.nodup_cons.2 ⟨fun q=>?_,?_⟩,fun e he=>?_⟩
  ·obtain ⟨u,hm,e⟩:=List.mem_map.1 q
   by_cases hp:y%2=0
   ·rw [f3 hp] at hm;simp at hm
   ·have e:2*u=(y:Int):=e
    omega
  ·exact (List.pairwise_map.2 (f5.imp fun h q=>h (by have q:(2:Int)*_=2*_:=q;omega)))
  ·rcases List.mem_cons.1 he with rfl|he
   ·exact ⟨by omega,o1,o2⟩
   ·obtain ⟨u,hm,rfl⟩:=List.mem_map.1 he
    have:=f1 u hm
    have:=f4 u hm
    show 0≤2*u∧_≤2*u∧2*u≤_
    omega
 intro k
 induction k with
 |zero=>
  intro y hy hk
  cases hu:(t y).used with
  |true=>exact used 0 y hy hk hu
  |false=>rw [resL_zero hu];exact ⟨List.nodup_nil,fun e he=>by simp at he⟩
 |succ k ih=>
  intro y hy hk
  cases hu:(t y).used with
  |true=>exact used (k+1) y hy hk hu
  |false=>
   obtain ⟨_,_,h3,h4,h5,h6,_⟩:=kid_succ hn (hN▸hy) hk
   obtain ⟨_,g1,g2,g3⟩:=lvl_succ hn (hN▸hy) hk
   obtain ⟨a1,a2⟩:=ih (y-2^k) (by omega) h5
   obtain ⟨b1,b2⟩:=ih (y+2^k) (by omega) h6
   have c1:=(below_at (node_mk hn (z:=y-2^k) (by omega))).2.1
   have c2:=(below_at (node_mk hn (z:=y+2^k) (by omega))).2.1
   rw [g1] at a2 c1
   rw [g3] at b2 c2
   rw [resL_succ hu]
   refine ⟨List.nodup_append.2 ⟨a1,b1,fun e he e' he' q=>?_⟩,fun e he=>?_⟩
   ·have:=a2 e he
    have:=b2 e' he'
    omega
   ·rcases List.mem_append.1 he with he|he
    ·have:=a2 e he;omega
    ·have:=b2 e he;omega
end
end Go.Proofs.YthlnlcijnoadcaaGreatDoor.Mk
end
section
namespace Go.Proofs.YthlnlcijnoadcaaGreatDoor.Mk
open Go Go.Sy Tr
open Sh (gI)
noncomputable def giC (b:Bool):=mk (P:=Tryz.prog) [] [] fun i=>if i=6 then some false else if i=16 then some b else none
theorem giC_ok (b:Bool):CtrSound Tryz.prog (giC b):=mk_sound _ InlOK.nil _ _
theorem growI_pos (n:Int):(callS Tryz.prog (giC true) 60 Tryz.f172 [.nl (.slice none 0 0),.int .i64 n] []).map (fun x=>x)=
  some (.sl 0 0 0 1 0 (gI n).toNat false false,[.b [.ints .i64 (gI n).toNat (List.replicate (gI n).toNat 0)]],andT (andT (andT true (!decide (n<0))) (decide (gI n>0))) (decide (0≤gI n)&&decide (gI n≤2^38))):=by kernel_rfl
theorem growI_zero (n:Int):(callS Tryz.prog (giC false) 60 Tryz.f172 [.nl (.slice none 0 0),.int .i64 n] []).map (fun x=>(x.1,x.2.2))=
  some (.nl (.slice none 0 0),andT (andT true (!decide (n<0))) (!decide (gI n>0))):=by kernel_rfl
theorem growI_fn {n:Int} (h0:0≤n) (h1:n≤274877906944):FnTr Tryz.prog 172 [.nl (.slice none 0 0),.int .i64 n] [] (.sl 0 0 0 1 0 n.toNat false false) [.b [.ints .i64 n.toNat (List.replicate n.toNat 0)]]:=by
 have e:gI n=n:=by
  unfold gI
  rw [wrapI (n:=0-((0:Nat):Int)) (by omega) (by omega),wrapI (by omega) (by omega)];omega
 by_cases hn:n=0
 ·subst hn
  have k:=growI_zero 0
  rw [e] at k
  exact (call0 (giC_ok false) 60 Tryz.func172 k rfl rfl).empty .i64 false false
 ·have k:=growI_pos n
  rw [e,decide_eq_false (show ¬n<0 by omega),decide_eq_true (show n>0 by omega),decide_eq_true h0,decide_eq_true (show n≤2^38 by omega)] at k
  obtain ⟨x,h2,h3⟩:=Option.map_eq_some_iff.1 k
  subst h3
  exact FnTr.of_callS (giC_ok true) Tryz.func172 h2
noncomputable def growIE:Entry Tryz.prog:=.val 172 _ Tryz.func172 (by decide) rfl false 1 (fun vs=>match vs with
 | [.nl (.slice none 0 0),.int .i64 n]=>some (.sl 0 0 0 1 0 n.toNat false false,[.b [.ints .i64 n.toNat (List.replicate n.toNat 0)]],decide (0≤n)&&decide (n.toNat≤274877906944))
 |_=>none) fun vs v new e=>by
 split at e
 ·simp only [Option.some.injEq,Prod.mk.injEq,Bool.and_eq_true,decide_eq_true_eq] at e
  obtain ⟨rfl,rfl,h1,h2⟩:=e
  exact growI_fn h1 (by omega)
 ·cases e
def cl2 (a b:List Int):Int:=IntKind.i64.wrap (IntKind.i64.wrap (0+((a.length:Nat):Int))+((b.length:Nat):Int))
noncomputable def ciC:Ctr:=mk (P:=Tryz.prog) [growIE] [] (fun i=>if i=20 then some false else none) fun i=>i=33
theorem ciC_ok:CtrSound Tryz.prog ciC:=mk_sound _ InlOK.nil _ _
theorem ci_2 (a b:List Int) (f g:Bool):(callS Tryz.prog ciC 60 Tryz.f129 [.sl 0 0 0 1 2 2 true true] [.b [.ro f .i64 a,.ro g .i64 b]])=some (.sl 1 0 0 1 (0+a.length+b.length) (cl2 a b).toNat false false,[.b [.ro f .i64 a,.ro g .i64 b],.b [.ints .i64 (cl2 a b).toNat (spl (spl (List.replicate (cl2 a b).toNat 0) (0+0) a a.length) (0+(0+a.length)) b b.length)]],andT (andT (andT (andT (andT (andT (andT true !decide (IntKind.i64.wrap (0+((a.length:Nat):Int))<0)) (inB (IntKind.i64.wrap (0+1)) 2)) !decide (IntKind.i64.wrap (IntKind.i64.wrap (0+((a.length:Nat):Int))+((b.length:Nat):Int))<0)) (andT true (decide (0≤IntKind.i64.wrap (IntKind.i64.wrap (0+((a.length:Nat):Int))+((b.length:Nat):Int)))&&decide ((IntKind.i64.wrap (IntKind.i64.wrap (0+((a.length:Nat):Int))+((b.length:Nat):Int))).toNat≤274877906944)))) (andT (andT (andT true (Nat.beq 1 1)) (decide (0+a.length≤(IntKind.i64.wrap (IntKind.i64.wrap (0+((a.length:Nat):Int))+((b.length:Nat):Int))).toNat))) (decide ((List.replicate (IntKind.i64.wrap (IntKind.i64.wrap (0+((a.length:Nat):Int))+((b.length:Nat):Int))).toNat (0:Int)).length=(IntKind.i64.wrap (IntKind.i64.wrap (0+((a.length:Nat):Int))+((b.length:Nat):Int))).toNat)&&decide (0+0+a.length≤(IntKind.i64.wrap (IntKind.i64.wrap (0+((a.length:Nat):Int))+((b.length:Nat):Int))).toNat)&&decide (a.length≤a.length)))) (inB (IntKind.i64.wrap (0+1)) 2)) (andT (andT (andT true (Nat.beq 1 1)) (decide (0+a.length+b.length≤(IntKind.i64.wrap (IntKind.i64.wrap (0+((a.length:Nat):Int))+((b.length:Nat):Int))).toNat))) (decide ((spl (List.replicate (IntKind.i64.wrap (IntKind.i64.wrap (0+((a.length:Nat):Int))+((b.length:Nat):Int))).toNat 0) (0+0) a a.length).length=(IntKind.i64.wrap (IntKind.i64.wrap (0+((a.length:Nat):Int))+((b.length:Nat):Int))).toNat)&&decide (0+(0+a.length)+b.length≤(IntKind.i64.wrap (IntKind.i64.wrap (0+((a.length:Nat):Int))+((b.length:Nat):Int))).toNat)&&decide (b.length≤b.length)))):=by kernel_rfl
theorem spl_two (a b:List Int):spl (spl (List.replicate (a.length+b.length) 0) 0 a a.length) a.length b b.length=a++b:=by
 unfold spl
 simp
theorem concat2_fn {a b:List Int} {f g:Bool} (h:a.length+b.length≤274877906944):FnTr Tryz.prog 129 [.sl 0 0 0 1 2 2 true true] [.b [.ro f .i64 a,.ro g .i64 b]] (.sl 1 0 0 1 (a.length+b.length) (a.length+b.length) false false) [.b [.ro f .i64 a,.ro g .i64 b],.b [.ints .i64 (a.length+b.length) (a++b)]]:=by
 have e0:cl2 a b=((a.length+b.length:Nat):Int):=by
  unfold cl2
  rw [Int.zero_add,wrapI (n:=((a.length:Nat):Int)) (by omega) (by omega),wrapI (by omega) (by omega)];omega
 have e1:IntKind.i64.wrap (0+((a.length:Nat):Int))=((a.length:Nat):Int):=by rw [Int.zero_add,wrapI (by omega) (by omega)]
 have e2:(cl2 a b).toNat=a.length+b.length:=by rw [e0,Int.toNat_natCast]
 have e:=ci_2 a b f g
 rw [e2] at e
 simp only [Nat.zero_add] at e
 rw [spl_two] at e
 refine FnTr.of_callS ciC_ok Tryz.func129 (n:=60) (e.trans ?_)
 have e3:IntKind.i64.wrap (((a.length:Nat):Int)+((b.length:Nat):Int))=((a.length+b.length:Nat):Int):=by rw [wrapI (by omega) (by omega)];omega
 have e4:(spl (List.replicate (a.length+b.length) 0) 0 a a.length).length=a.length+b.length:=by unfold spl;simp
 simp only [Int.zero_add] at e1
 simp only [Int.zero_add,e1,e3,Int.toNat_natCast,e4,List.length_replicate]
 rw [decide_eq_false (show ¬((a.length:Nat):Int)<0 by omega),decide_eq_false (show ¬((a.length+b.length:Nat):Int)<0 by omega),decide_eq_true (show (0:Int)≤((a.length+b.length:Nat):Int) by omega),decide_eq_true h,decide_eq_true (show a.length≤a.length+b.length by omega),decide_eq_true (Nat.le_refl (a.length+b.length)),decide_eq_true (Nat.le_refl a.length),decide_eq_true (Nat.le_refl b.length)]
 simp only [decide_true]
 rfl
noncomputable def concat2E:Entry Tryz.prog:=.mut 129 _ Tryz.func129 (by decide) rfl pick0 1 (fun us h0=>match us,h0 with
 | [.sl 0 0 0 1 2 2 true true],[.b [.ro f .i64 a,.ro g .i64 b]]=>some (.sl 1 0 0 1 (a.length+b.length) (a.length+b.length) false false,[.b [.ro f .i64 a,.ro g .i64 b],.b [.ints .i64 (a.length+b.length) (a++b)]],decide (a.length+b.length≤274877906944))
 |_,_=>none) fun us h0 v h1 e=>by
 split at e
 ·simp only [Option.some.injEq,Prod.mk.injEq,decide_eq_true_eq] at e
  obtain ⟨rfl,rfl,h⟩:=e
  exact concat2_fn h
 ·cases e
noncomputable def s0I:List (FuncId×Func):=[(174,Tryz.f174),(226,Tryz.f226),(173,Tryz.f173),(217,Tryz.f217)]
theorem s0I_ok:InlOK Tryz.prog s0I:=InlOK.cons Tryz.func174 (by decide) (InlOK.cons Tryz.func226 (by decide) (InlOK.cons Tryz.func173 (by decide) (InlOK.cons Tryz.func217 (by decide) InlOK.nil)))
noncomputable def s0C:Ctr:=mk (P:=Tryz.prog) [] s0I
theorem s0C_ok:CtrSound Tryz.prog s0C:=mk_sound _ s0I_ok _ _
theorem sort_0:callS Tryz.prog s0C 60 Tryz.f130 [.sl 0 0 0 1 0 0 false false] [.b [.ints .i64 0 []]]=some (.tup [],[.b [.ints .i64 0 []]],true):=by kernel_rfl
theorem sortX_fn {xs:List Int} (h1:xs.length≤274877906944):FnTr Tryz.prog 130 [.sl 0 0 0 1 xs.length xs.length false false] [.b [.ints .i64 xs.length xs]] (.tup []) [.b [.ints .i64 xs.length (sortL xs)]]:=by
 rcases Nat.eq_zero_or_pos xs.length with h|h
 ·obtain rfl:=List.length_eq_zero_iff.1 h
  have:sortL ([]:List Int)=[]:=List.length_eq_zero_iff.1 (sortL_len [])
  rw [this]
  exact FnTr.of_callS s0C_ok Tryz.func130 sort_0
 ·exact sort_fn rfl h h1
noncomputable def sortXE:Entry Tryz.prog:=.mut 130 _ Tryz.func130 (by decide) rfl pick0 0 (fun us h0=>match us,h0 with
 | [.sl 0 0 0 1 n n' false false],[.b [.ints .i64 m xs]]=>some (.tup [],[.b [.ints .i64 n (sortL xs)]],decide (n=n')&&decide (n=m)&&decide (xs.length=n)&&decide (n≤274877906944))
 |_,_=>none) fun us h0 v h1 e=>by
 split at e
 ·simp only [Option.some.injEq,Prod.mk.injEq,Bool.and_eq_true,decide_eq_true_eq] at e
  obtain ⟨rfl,rfl,⟨⟨rfl,rfl⟩,rfl⟩,h4⟩:=e
  exact sortX_fn h4
 ·cases e
end Go.Proofs.YthlnlcijnoadcaaGreatDoor.Mk
end
section
namespace Go.Proofs.YthlnlcijnoadcaaGreatDoor.Mk
open Go Go.Sy Tr Wi S2
noncomputable def byC (l:List (Nat×Bool)):Ctr:=mk (P:=Tryz.prog) [resolutionE,leavesE,belowE,markE,concat2E,sortXE,equalE] [] (uT l)
theorem byC_ok (l:List (Nat×Bool)):CtrSound Tryz.prog (byC l):=mk_sound _ InlOK.nil _ _
noncomputable def byBd:Code:=bodyOf Tryz.f82
noncomputable def bo0 (N:Nat) (t:Nat→Nod) (x c a b:Int) (L un:List Int) (v:SV) (i:Int) (h:List Blk):St:=⟨slotsOf 87 [(0,.rol false 99 N (tng t)),(1,.int .i64 x),(2,.int .i64 c),(7,.ro true .i64 L),(8,.int .i64 a),(9,.int .i64 b),(10,v),(32,.ro false .i64 un),(33,.int .i64 un.length),(34,.int .i64 i)],h,true⟩
noncomputable def boS (N:Nat) (t:Nat→Nod) (x c a b:Int) (L un xs:List Int) (n:Nat) (i:Int):St:=bo0 N t x c a b L un (.sl 0 0 0 1 n n false true) i [.b [.ints .i64 n xs]]
noncomputable def bkS (N:Nat) (t:Nat→Nod) (L xs:List Int) (n:Nat) (w:List Int) (k:Int):St:=⟨slotsOf 87 [(0,.rol false 99 N (tng t)),(7,.ro true .i64 L),(10,.sl 0 0 0 1 n n false true),(13,.ptr 1 0 0),(56,.ro true .i64 L),(57,.int .i64 L.length),(58,.int .i64 k)],[.b [.ints .i64 n xs],.b [.ints .u8 32 w]],true⟩
theorem by_h (N:Nat) (t:Nat→Nod) (x c:Int):resX (cutR [0,1,2,7,8,9,10,32,33,34] 0 ((execL Tryz.prog (byC []) 60 0 5 (atoms byBd) ⟨slots0 Tryz.f82.ntmps [.rol false 99 N (tng t),.int .i64 x,.int .i64 c],[],true⟩).map fun s=>(Exit.normal,s)))=some (.normal,(bo0 N t x c (firstV c) (lastV c) (rsnV N t c) (t x.toNat).un (.nl (.slice none 0 0)) 0 []).t,[]):=by kernel_rfl
theorem by_h' (N:Nat) (t:Nat→Nod) (x c:Int):obX (cutR [0,1,2,7,8,9,10,32,33,34] 0 ((execL Tryz.prog (byC []) 60 0 5 (atoms byBd) ⟨slots0 Tryz.f82.ntmps [.rol false 99 N (tng t),.int .i64 x,.int .i64 c],[],true⟩).map fun s=>(Exit.normal,s)))=(andT (andT (andT (andT true (andT true ((okT N fun i=>coolL (tng t i))&&decide (N≤71)))) (andT true (Tr.nodeB c (leavesV ((N:Nat):Int))))) (inB x N)) (true&&(decide (x.toNat<N)&&true))):=by kernel_rfl
theorem bo_y (N:Nat) (t:Nat→Nod) (x c a b:Int) (L un xs:List Int) (n:Nat) (i:Int):resX (cutR [0,1,2,7,8,9,10,32,33,34] 1 (exec Tryz.prog (byC [(35,true),(41,true),(45,true)]) 60 0 (inner (inner (nthC 5 byBd))) (boS N t x c a b L un xs n i)))=some (.normal,(boS N t x c a b L un xs (n+1) (IntKind.i64.wrap (i+1))).t,[.b [.ints .i64 (n+1) (xs++[IntKind.i64.wrap (2*un.getD i.toNat 0)])]]):=by kernel_rfl
theorem bo_y' (N:Nat) (t:Nat→Nod) (x c a b:Int) (L un xs:List Int) (n:Nat) (i:Int):obX (cutR [0,1,2,7,8,9,10,32,33,34] 1 (exec Tryz.prog (byC [(35,true),(41,true),(45,true)]) 60 0 (inner (inner (nthC 5 byBd))) (boS N t x c a b L un xs n i)))=(andT (andT (andT (andT (andT (andT true (decide (i<((un.length:Nat):Int)))) (inB i un.length)) (decide (i.toNat<un.length))) (decide (un.getD i.toNat 0≥a))) (decide (un.getD i.toNat 0≤b))) (andT (andT (andT (andT (decide (((List.replicate 1 0).set 0 (IntKind.i64.wrap (2*un.getD i.toNat 0))).length=1)&&true) (decide (xs.length=n)&&(decide (n≤n)&&true))) (decide (xs.length=n))) true) (decide (n+1≤2^38)))):=by kernel_rfl
theorem bo_n (N:Nat) (t:Nat→Nod) (x c a b:Int) (L un xs:List Int) (n:Nat) (i:Int):resX (cutR [0,1,2,7,8,9,10,32,33,34] 1 (exec Tryz.prog (byC [(35,true),(41,true),(45,false)]) 60 0 (inner (inner (nthC 5 byBd))) (boS N t x c a b L un xs n i)))=some (.normal,(boS N t x c a b L un xs n (IntKind.i64.wrap (i+1))).t,[.b [.ints .i64 n xs]]):=by kernel_rfl
theorem bo_n' (N:Nat) (t:Nat→Nod) (x c a b:Int) (L un xs:List Int) (n:Nat) (i:Int):obX (cutR [0,1,2,7,8,9,10,32,33,34] 1 (exec Tryz.prog (byC [(35,true),(41,true),(45,false)]) 60 0 (inner (inner (nthC 5 byBd))) (boS N t x c a b L un xs n i)))=(andT (andT (andT (andT (andT true (decide (i<((un.length:Nat):Int)))) (inB i un.length)) (decide (i.toNat<un.length))) (decide (un.getD i.toNat 0≥a))) !decide (un.getD i.toNat 0≤b)):=by kernel_rfl
theorem bo_m (N:Nat) (t:Nat→Nod) (x c a b:Int) (L un xs:List Int) (n:Nat) (i:Int):resX (cutR [0,1,2,7,8,9,10,32,33,34] 1 (exec Tryz.prog (byC [(35,true),(41,false)]) 60 0 (inner (inner (nthC 5 byBd))) (boS N t x c a b L un xs n i)))=some (.normal,(boS N t x c a b L un xs n (IntKind.i64.wrap (i+1))).t,[.b [.ints .i64 n xs]]):=by kernel_rfl
theorem bo_m' (N:Nat) (t:Nat→Nod) (x c a b:Int) (L un xs:List Int) (n:Nat) (i:Int):obX (cutR [0,1,2,7,8,9,10,32,33,34] 1 (exec Tryz.prog (byC [(35,true),(41,false)]) 60 0 (inner (inner (nthC 5 byBd))) (boS N t x c a b L un xs n i)))=(andT (andT (andT (andT true (decide (i<((un.length:Nat):Int)))) (inB i un.length)) (decide (i.toNat<un.length))) !decide (un.getD i.toNat 0≥a)):=by kernel_rfl
theorem bo_e (N:Nat) (t:Nat→Nod) (x c a b:Int) (L un xs:List Int) (n:Nat) (i:Int):resX (cutR [0,1,2,7,10] 1 (exec Tryz.prog (byC [(35,false)]) 60 0 (inner (inner (nthC 5 byBd))) (boS N t x c a b L un xs n i)))=some (.exit 0,slotsOf 87 [(0,.rol false 99 N (tng t)),(1,.int .i64 x),(2,.int .i64 c),(7,.ro true .i64 L),(10,.sl 0 0 0 1 n n false true)],[.b [.ints .i64 n xs]]):=by kernel_rfl
theorem bo_e' (N:Nat) (t:Nat→Nod) (x c a b:Int) (L un xs:List Int) (n:Nat) (i:Int):obX (cutR [0,1,2,7,10] 1 (exec Tryz.prog (byC [(35,false)]) 60 0 (inner (inner (nthC 5 byBd))) (boS N t x c a b L un xs n i)))=(andT true !decide (i<((un.length:Nat):Int))):=by kernel_rfl
theorem by_m (N:Nat) (t:Nat→Nod) (x c:Int) (L xs:List Int) (n:Nat):resX (cutR [0,7,10,13,56,57,58] 2 ((execL Tryz.prog (byC []) 60 0 2 ((atoms byBd).drop 6) ⟨slotsOf 87 [(0,.rol false 99 N (tng t)),(1,.int .i64 x),(2,.int .i64 c),(7,.ro true .i64 L),(10,.sl 0 0 0 1 n n false true)],[.b [.ints .i64 n xs]],true⟩).map fun s=>(Exit.normal,s)))=some (.normal,(bkS N t L xs n (markW t x (leftV x+rightV x-c)) 0).t,(bkS N t L xs n (markW t x (leftV x+rightV x-c)) 0).h):=by kernel_rfl
theorem by_m' (N:Nat) (t:Nat→Nod) (x c:Int) (L xs:List Int) (n:Nat):obX (cutR [0,7,10,13,56,57,58] 2 ((execL Tryz.prog (byC []) 60 0 2 ((atoms byBd).drop 6) ⟨slotsOf 87 [(0,.rol false 99 N (tng t)),(1,.int .i64 x),(2,.int .i64 c),(7,.ro true .i64 L),(10,.sl 0 0 0 1 n n false true)],[.b [.ints .i64 n xs]],true⟩).map fun s=>(Exit.normal,s)))=(andT true (andT true ((okT N fun i=>coolL (tng t i))&&decide (N≤71)&&mkQ N (treeOf fun i=>coolL (tng t i)) x c))):=by kernel_rfl
theorem bk_m (N:Nat) (t:Nat→Nod) (L xs:List Int) (n:Nat) (w:List Int) (k:Int):resX (cutR [0,7,10,13,56,57,58] 2 (exec Tryz.prog (byC [(59,true),(81,false)]) 60 0 (inner (inner (nthC 8 byBd))) (bkS N t L xs n w k)))=some (.normal,(bkS N t L xs n w (IntKind.i64.wrap (k+1))).t,(bkS N t L xs n w k).h):=by kernel_rfl
theorem bk_m' (N:Nat) (t:Nat→Nod) (L xs:List Int) (n:Nat) (w:List Int) (k:Int):obX (cutR [0,7,10,13,56,57,58] 2 (exec Tryz.prog (byC [(59,true),(81,false)]) 60 0 (inner (inner (nthC 8 byBd))) (bkS N t L xs n w k)))=(andT (andT (andT (andT (andT (andT (andT (andT (andT (andT (andT true (decide (k<((L.length:Nat):Int)))) (inB k L.length)) (decide (k.toNat<L.length))) (andT true (decide (0≤k)&&decide (k≤(((L.length):Nat):Int))))) (andT true (andT true (decide (0≤IntKind.i64.wrap (k+1))&&decide (IntKind.i64.wrap (k+1)≤((L.length:Nat):Int)))))) (andT true (decide ((winL L none (some (SV.int IntKind.i64 k)) 0 k.toNat).length+(winL L (some (SV.int IntKind.i64 (IntKind.i64.wrap (k+1)))) none (IntKind.i64.wrap (k+1)).toNat L.length).length≤274877906944)))) (andT true (decide ((winL L none (some (SV.int IntKind.i64 k)) 0 k.toNat).length+(winL L (some (SV.int IntKind.i64 (IntKind.i64.wrap (k+1)))) none (IntKind.i64.wrap (k+1)).toNat L.length).length=(winL L none (some (SV.int IntKind.i64 k)) 0 k.toNat).length+(winL L (some (SV.int IntKind.i64 (IntKind.i64.wrap (k+1)))) none (IntKind.i64.wrap (k+1)).toNat L.length).length)&&decide ((winL L none (some (SV.int IntKind.i64 k)) 0 k.toNat).length+(winL L (some (SV.int IntKind.i64 (IntKind.i64.wrap (k+1)))) none (IntKind.i64.wrap (k+1)).toNat L.length).length=(winL L none (some (SV.int IntKind.i64 k)) 0 k.toNat).length+(winL L (some (SV.int IntKind.i64 (IntKind.i64.wrap (k+1)))) none (IntKind.i64.wrap (k+1)).toNat L.length).length)&&decide ((winL L none (some (SV.int IntKind.i64 k)) 0 k.toNat++winL L (some (SV.int IntKind.i64 (IntKind.i64.wrap (k+1)))) none (IntKind.i64.wrap (k+1)).toNat L.length).length=(winL L none (some (SV.int IntKind.i64 k)) 0 k.toNat).length+(winL L (some (SV.int IntKind.i64 (IntKind.i64.wrap (k+1)))) none (IntKind.i64.wrap (k+1)).toNat L.length).length)&&decide ((winL L none (some (SV.int IntKind.i64 k)) 0 k.toNat).length+(winL L (some (SV.int IntKind.i64 (IntKind.i64.wrap (k+1)))) none (IntKind.i64.wrap (k+1)).toNat L.length).length≤274877906944)))) (inB (L.getD k.toNat 0) N)) (true&&(decide ((L.getD k.toNat 0).toNat<N)&&true))) (andT (decide ((t (L.getD k.toNat 0).toNat).par.length=32)) (decide (w.length=32)))) !decide ((t (L.getD k.toNat 0).toNat).par=w)):=by kernel_rfl
theorem bk_n (N:Nat) (t:Nat→Nod) (L xs:List Int) (n:Nat) (w:List Int) (k:Int):resX (cutR [0,7,10,13,56,57,58] 2 (exec Tryz.prog (byC [(59,true),(81,true),(85,false)]) 60 0 (inner (inner (nthC 8 byBd))) (bkS N t L xs n w k)))=some (.normal,(bkS N t L xs n w (IntKind.i64.wrap (k+1))).t,(bkS N t L xs n w k).h):=by kernel_rfl
theorem bk_n' (N:Nat) (t:Nat→Nod) (L xs:List Int) (n:Nat) (w:List Int) (k:Int):obX (cutR [0,7,10,13,56,57,58] 2 (exec Tryz.prog (byC [(59,true),(81,true),(85,false)]) 60 0 (inner (inner (nthC 8 byBd))) (bkS N t L xs n w k)))=(andT (andT (andT (andT (andT (andT (andT (andT (andT (andT (andT (andT (andT true (decide (k<((L.length:Nat):Int)))) (inB k L.length)) (decide (k.toNat<L.length))) (andT true (decide (0≤k)&&decide (k≤(((L.length):Nat):Int))))) (andT true (andT true (decide (0≤IntKind.i64.wrap (k+1))&&decide (IntKind.i64.wrap (k+1)≤((L.length:Nat):Int)))))) (andT true (decide ((winL L none (some (SV.int IntKind.i64 k)) 0 k.toNat).length+(winL L (some (SV.int IntKind.i64 (IntKind.i64.wrap (k+1)))) none (IntKind.i64.wrap (k+1)).toNat L.length).length≤274877906944)))) (andT true (decide ((winL L none (some (SV.int IntKind.i64 k)) 0 k.toNat).length+(winL L (some (SV.int IntKind.i64 (IntKind.i64.wrap (k+1)))) none (IntKind.i64.wrap (k+1)).toNat L.length).length=(winL L none (some (SV.int IntKind.i64 k)) 0 k.toNat).length+(winL L (some (SV.int IntKind.i64 (IntKind.i64.wrap (k+1)))) none (IntKind.i64.wrap (k+1)).toNat L.length).length)&&decide ((winL L none (some (SV.int IntKind.i64 k)) 0 k.toNat).length+(winL L (some (SV.int IntKind.i64 (IntKind.i64.wrap (k+1)))) none (IntKind.i64.wrap (k+1)).toNat L.length).length=(winL L none (some (SV.int IntKind.i64 k)) 0 k.toNat).length+(winL L (some (SV.int IntKind.i64 (IntKind.i64.wrap (k+1)))) none (IntKind.i64.wrap (k+1)).toNat L.length).length)&&decide ((winL L none (some (SV.int IntKind.i64 k)) 0 k.toNat++winL L (some (SV.int IntKind.i64 (IntKind.i64.wrap (k+1)))) none (IntKind.i64.wrap (k+1)).toNat L.length).length=(winL L none (some (SV.int IntKind.i64 k)) 0 k.toNat).length+(winL L (some (SV.int IntKind.i64 (IntKind.i64.wrap (k+1)))) none (IntKind.i64.wrap (k+1)).toNat L.length).length)&&decide ((winL L none (some (SV.int IntKind.i64 k)) 0 k.toNat).length+(winL L (some (SV.int IntKind.i64 (IntKind.i64.wrap (k+1)))) none (IntKind.i64.wrap (k+1)).toNat L.length).length≤274877906944)))) (inB (L.getD k.toNat 0) N)) (true&&(decide ((L.getD k.toNat 0).toNat<N)&&true))) (andT (decide ((t (L.getD k.toNat 0).toNat).par.length=32)) (decide (w.length=32)))) (decide ((t (L.getD k.toNat 0).toNat).par=w))) (andT (andT (andT (decide (0+((winL L none (some (SV.int IntKind.i64 k)) 0 k.toNat).length+(winL L (some (SV.int IntKind.i64 (IntKind.i64.wrap (k+1)))) none (IntKind.i64.wrap (k+1)).toNat L.length).length)≤(winL L none (some (SV.int IntKind.i64 k)) 0 k.toNat).length+(winL L (some (SV.int IntKind.i64 (IntKind.i64.wrap (k+1)))) none (IntKind.i64.wrap (k+1)).toNat L.length).length)&&decide (0+((winL L none (some (SV.int IntKind.i64 k)) 0 k.toNat).length+(winL L (some (SV.int IntKind.i64 (IntKind.i64.wrap (k+1)))) none (IntKind.i64.wrap (k+1)).toNat L.length).length)≤(sortL (winL L none (some (SV.int IntKind.i64 k)) 0 k.toNat++winL L (some (SV.int IntKind.i64 (IntKind.i64.wrap (k+1)))) none (IntKind.i64.wrap (k+1)).toNat L.length)).length)) (decide ((List.take ((winL L none (some (SV.int IntKind.i64 k)) 0 k.toNat).length+(winL L (some (SV.int IntKind.i64 (IntKind.i64.wrap (k+1)))) none (IntKind.i64.wrap (k+1)).toNat L.length).length) (List.drop 0 (sortL (winL L none (some (SV.int IntKind.i64 k)) 0 k.toNat++winL L (some (SV.int IntKind.i64 (IntKind.i64.wrap (k+1)))) none (IntKind.i64.wrap (k+1)).toNat L.length)))).length=(winL L none (some (SV.int IntKind.i64 k)) 0 k.toNat).length+(winL L (some (SV.int IntKind.i64 (IntKind.i64.wrap (k+1)))) none (IntKind.i64.wrap (k+1)).toNat L.length).length))) (andT (decide (xs.length=n)&&(decide (n≤n)&&true)) (decide (xs.length=n)))) (decide ((List.take ((winL L none (some (SV.int IntKind.i64 k)) 0 k.toNat).length+(winL L (some (SV.int IntKind.i64 (IntKind.i64.wrap (k+1)))) none (IntKind.i64.wrap (k+1)).toNat L.length).length) (List.drop 0 (sortL (winL L none (some (SV.int IntKind.i64 k)) 0 k.toNat++winL L (some (SV.int IntKind.i64 (IntKind.i64.wrap (k+1)))) none (IntKind.i64.wrap (k+1)).toNat L.length)))).length≤274877906944)))) !decide (List.take ((winL L none (some (SV.int IntKind.i64 k)) 0 k.toNat).length+(winL L (some (SV.int IntKind.i64 (IntKind.i64.wrap (k+1)))) none (IntKind.i64.wrap (k+1)).toNat L.length).length) (List.drop 0 (sortL (winL L none (some (SV.int IntKind.i64 k)) 0 k.toNat++winL L (some (SV.int IntKind.i64 (IntKind.i64.wrap (k+1)))) none (IntKind.i64.wrap (k+1)).toNat L.length)))=xs)):=by kernel_rfl
theorem bk_y (N:Nat) (t:Nat→Nod) (L xs:List Int) (n:Nat) (w:List Int) (k:Int):resX (cutR [6] 0 (exec Tryz.prog (byC [(59,true),(81,true),(85,true)]) 60 0 (inner (inner (nthC 8 byBd))) (bkS N t L xs n w k)))=some (.ret,slotsOf 87 [(6,.bool true)],[]):=by kernel_rfl
theorem bk_y' (N:Nat) (t:Nat→Nod) (L xs:List Int) (n:Nat) (w:List Int) (k:Int):obX (cutR [6] 0 (exec Tryz.prog (byC [(59,true),(81,true),(85,true)]) 60 0 (inner (inner (nthC 8 byBd))) (bkS N t L xs n w k)))=(andT (andT (andT (andT (andT (andT (andT (andT (andT (andT (andT (andT (andT true (decide (k<((L.length:Nat):Int)))) (inB k L.length)) (decide (k.toNat<L.length))) (andT true (decide (0≤k)&&decide (k≤(((L.length):Nat):Int))))) (andT true (andT true (decide (0≤IntKind.i64.wrap (k+1))&&decide (IntKind.i64.wrap (k+1)≤((L.length:Nat):Int)))))) (andT true (decide ((winL L none (some (SV.int IntKind.i64 k)) 0 k.toNat).length+(winL L (some (SV.int IntKind.i64 (IntKind.i64.wrap (k+1)))) none (IntKind.i64.wrap (k+1)).toNat L.length).length≤274877906944)))) (andT true (decide ((winL L none (some (SV.int IntKind.i64 k)) 0 k.toNat).length+(winL L (some (SV.int IntKind.i64 (IntKind.i64.wrap (k+1)))) none (IntKind.i64.wrap (k+1)).toNat L.length).length=(winL L none (some (SV.int IntKind.i64 k)) 0 k.toNat).length+(winL L (some (SV.int IntKind.i64 (IntKind.i64.wrap (k+1)))) none (IntKind.i64.wrap (k+1)).toNat L.length).length)&&decide ((winL L none (some (SV.int IntKind.i64 k)) 0 k.toNat).length+(winL L (some (SV.int IntKind.i64 (IntKind.i64.wrap (k+1)))) none (IntKind.i64.wrap (k+1)).toNat L.length).length=(winL L none (some (SV.int IntKind.i64 k)) 0 k.toNat).length+(winL L (some (SV.int IntKind.i64 (IntKind.i64.wrap (k+1)))) none (IntKind.i64.wrap (k+1)).toNat L.length).length)&&decide ((winL L none (some (SV.int IntKind.i64 k)) 0 k.toNat++winL L (some (SV.int IntKind.i64 (IntKind.i64.wrap (k+1)))) none (IntKind.i64.wrap (k+1)).toNat L.length).length=(winL L none (some (SV.int IntKind.i64 k)) 0 k.toNat).length+(winL L (some (SV.int IntKind.i64 (IntKind.i64.wrap (k+1)))) none (IntKind.i64.wrap (k+1)).toNat L.length).length)&&decide ((winL L none (some (SV.int IntKind.i64 k)) 0 k.toNat).length+(winL L (some (SV.int IntKind.i64 (IntKind.i64.wrap (k+1)))) none (IntKind.i64.wrap (k+1)).toNat L.length).length≤274877906944)))) (inB (L.getD k.toNat 0) N)) (true&&(decide ((L.getD k.toNat 0).toNat<N)&&true))) (andT (decide ((t (L.getD k.toNat 0).toNat).par.length=32)) (decide (w.length=32)))) (decide ((t (L.getD k.toNat 0).toNat).par=w))) (andT (andT (andT (decide (0+((winL L none (some (SV.int IntKind.i64 k)) 0 k.toNat).length+(winL L (some (SV.int IntKind.i64 (IntKind.i64.wrap (k+1)))) none (IntKind.i64.wrap (k+1)).toNat L.length).length)≤(winL L none (some (SV.int IntKind.i64 k)) 0 k.toNat).length+(winL L (some (SV.int IntKind.i64 (IntKind.i64.wrap (k+1)))) none (IntKind.i64.wrap (k+1)).toNat L.length).length)&&decide (0+((winL L none (some (SV.int IntKind.i64 k)) 0 k.toNat).length+(winL L (some (SV.int IntKind.i64 (IntKind.i64.wrap (k+1)))) none (IntKind.i64.wrap (k+1)).toNat L.length).length)≤(sortL (winL L none (some (SV.int IntKind.i64 k)) 0 k.toNat++winL L (some (SV.int IntKind.i64 (IntKind.i64.wrap (k+1)))) none (IntKind.i64.wrap (k+1)).toNat L.length)).length)) (decide ((List.take ((winL L none (some (SV.int IntKind.i64 k)) 0 k.toNat).length+(winL L (some (SV.int IntKind.i64 (IntKind.i64.wrap (k+1)))) none (IntKind.i64.wrap (k+1)).toNat L.length).length) (List.drop 0 (sortL (winL L none (some (SV.int IntKind.i64 k)) 0 k.toNat++winL L (some (SV.int IntKind.i64 (IntKind.i64.wrap (k+1)))) none (IntKind.i64.wrap (k+1)).toNat L.length)))).length=(winL L none (some (SV.int IntKind.i64 k)) 0 k.toNat).length+(winL L (some (SV.int IntKind.i64 (IntKind.i64.wrap (k+1)))) none (IntKind.i64.wrap (k+1)).toNat L.length).length))) (andT (decide (xs.length=n)&&(decide (n≤n)&&true)) (decide (xs.length=n)))) (decide ((List.take ((winL L none (some (SV.int IntKind.i64 k)) 0 k.toNat).length+(winL L (some (SV.int IntKind.i64 (IntKind.i64.wrap (k+1)))) none (IntKind.i64.wrap (k+1)).toNat L.length).length) (List.drop 0 (sortL (winL L none (some (SV.int IntKind.i64 k)) 0 k.toNat++winL L (some (SV.int IntKind.i64 (IntKind.i64.wrap (k+1)))) none (IntKind.i64.wrap (k+1)).toNat L.length)))).length≤274877906944)))) (decide (List.take ((winL L none (some (SV.int IntKind.i64 k)) 0 k.toNat).length+(winL L (some (SV.int IntKind.i64 (IntKind.i64.wrap (k+1)))) none (IntKind.i64.wrap (k+1)).toNat L.length).length) (List.drop 0 (sortL (winL L none (some (SV.int IntKind.i64 k)) 0 k.toNat++winL L (some (SV.int IntKind.i64 (IntKind.i64.wrap (k+1)))) none (IntKind.i64.wrap (k+1)).toNat L.length)))=xs))):=by kernel_rfl
theorem bk_e (N:Nat) (t:Nat→Nod) (L xs:List Int) (n:Nat) (w:List Int) (k:Int):resX (cutR [] 0 (exec Tryz.prog (byC [(59,false)]) 60 0 (inner (inner (nthC 8 byBd))) (bkS N t L xs n w k)))=some (.exit 2,slotsOf 87 [],[]):=by kernel_rfl
theorem bk_e' (N:Nat) (t:Nat→Nod) (L xs:List Int) (n:Nat) (w:List Int) (k:Int):obX (cutR [] 0 (exec Tryz.prog (byC [(59,false)]) 60 0 (inner (inner (nthC 8 byBd))) (bkS N t L xs n w k)))=(andT true !decide (k<((L.length:Nat):Int))):=by kernel_rfl
theorem own_succ (un:List Int) (c:Int) {j:Nat} (h:j<un.length):ownL (un.take (j+1)) c=ownL (un.take j) c++bif decide (un.getD j 0≥firstV c)&&decide (un.getD j 0≤lastV c) then [2*un.getD j 0] else []:=by
 unfold ownL
 have e:un.take (j+1)=un.take j++[un.getD j 0]:=by rw [List.take_add_one,getD_get h,List.getElem?_eq_getElem h];rfl
 rw [e,List.filter_append,List.map_append]
 congr 1
 cases hp:decide (un.getD j 0≥firstV c)&&decide (un.getD j 0≤lastV c) with
 |true=>rw [List.filter_cons_of_pos (by simpa using hp)];rfl
 |false=>rw [List.filter_cons_of_neg (by simpa using hp)];rfl
theorem own_le (un:List Int) (c:Int) (j:Nat):(ownL (un.take j) c).length≤un.length:=by
 unfold ownL
 rw [List.length_map]
 exact Nat.le_trans (List.length_filter_le _ _) (by rw [List.length_take];omega)
section
variable {N:Nat} {t:Nat→Nod} {x c:Int}
theorem own_step (hT:TOK N t) (h:mkQ N t x c=true) (L:List Int) {j:Nat} (hj:j<(t x.toNat).un.length):
  Tr Tryz.prog none 0 (inner (inner (nthC 5 byBd))) (boS N t x c (firstV c) (lastV c) L (t x.toNat).un (ownL ((t x.toNat).un.take j) c) (ownL ((t x.toNat).un.take j) c).length ((j:Nat):Int)) .normal (boS N t x c (firstV c) (lastV c) L (t x.toNat).un (ownL ((t x.toNat).un.take (j+1)) c) (ownL ((t x.toNat).un.take (j+1)) c).length ((j+1:Nat):Int)):=by
 obtain ⟨hc,h0,h1,_⟩:=mkQ_ok hT h
 have hu:=(check_un hT hc).1
 obtain ⟨hl,hr⟩:=un_of hu (show x.toNat<N by omega)
 have hle:=own_le (t x.toNat).un c j
 generalize (t x.toNat).un=un at*
 have hg:=hr (un.getD j 0) (by rw [getD_get hj];exact List.getElem_mem hj)
 have hs:=own_succ un c hj
 generalize ownL (un.take j) c=xs at hs hle ⊢
 by_cases p1:un.getD j 0≥firstV c
 ·by_cases p2:un.getD j 0≤lastV c
  ·rw [decide_eq_true p1,decide_eq_true p2] at hs
   have e:=bo_y N t x c (firstV c) (lastV c) L un xs xs.length j
   rw [Int.toNat_natCast,wrapI (n:=2*un.getD j 0) (by omega) (by omega),wrapS (by omega)] at e
   have hs:ownL (un.take (j+1)) c=xs++[2*un.getD j 0]:=hs
   rw [hs,List.length_append,List.length_singleton]
   refine Tr.cutX (byC_ok _) 60 _ 1 (Nat.zero_le _) _ e (bo_y' N t x c (firstV c) (lastV c) L un xs xs.length j) ?_
   rw [Int.toNat_natCast,ltN hj,inBN hj,decide_eq_true hj,decide_eq_true p1,decide_eq_true p2,decide_eq_true (Nat.le_refl xs.length),decide_eq_true (Eq.refl xs.length),decide_eq_true (show xs.length+1≤2^38 by omega)]
   rfl
  ·rw [decide_eq_true p1,decide_eq_false p2] at hs
   have e:=bo_n N t x c (firstV c) (lastV c) L un xs xs.length j
   rw [wrapS (by omega)] at e
   have hs:ownL (un.take (j+1)) c=xs:=hs.trans (List.append_nil _)
   rw [hs]
   refine Tr.cutX (byC_ok _) 60 _ 1 (Nat.zero_le _) _ e (bo_n' N t x c (firstV c) (lastV c) L un xs xs.length j) ?_
   rw [Int.toNat_natCast,ltN hj,inBN hj,decide_eq_true hj,decide_eq_true p1,decide_eq_false p2]
   rfl
 ·rw [decide_eq_false p1] at hs
  have e:=bo_m N t x c (firstV c) (lastV c) L un xs xs.length j
  rw [wrapS (by omega)] at e
  have hs:ownL (un.take (j+1)) c=xs:=hs.trans (List.append_nil _)
  rw [hs]
  refine Tr.cutX (byC_ok _) 60 _ 1 (Nat.zero_le _) _ e (bo_m' N t x c (firstV c) (lastV c) L un xs xs.length j) ?_
  rw [Int.toNat_natCast,ltN hj,inBN hj,decide_eq_true hj,decide_eq_false p1]
  rfl
noncomputable def byJ (t:Nat→Nod) (L w own:List Int) (k:Nat):Bool:=decide ((t (L.getD k 0).toNat).par=w)&&decide (sortL (restL L k)=own)
noncomputable def byV (t:Nat→Nod) (L w own:List Int):Bool:=!(List.range L.length).all fun k=>!byJ t L w own k
theorem bk_next (hT:TOK N t) {L xs w:List Int} {k:Nat} (hk:k<L.length) (hL:L.length≤100000) (hd:0≤L.getD k 0∧L.getD k 0<N) (hw:w.length=32) (hx:xs.length≤1000) (hb:byJ t L w xs k=false):
  Tr Tryz.prog none 0 (inner (inner (nthC 8 byBd))) (bkS N t L xs xs.length w ((k:Nat):Int)) .normal (bkS N t L xs xs.length w ((k+1:Nat):Int)):=by
 have wk:IntKind.i64.wrap ((k:Int)+1)=((k+1:Nat):Int):=wrapS (by omega)
 have hin:(L.getD k 0).toNat<N:=by omega
 have i1:inB (L.getD k 0) N=true:=by obtain ⟨y,hy⟩:=Int.eq_ofNat_of_zero_le hd.1;rw [hy];exact inBN (by omega)
 have i2:inB ((k:Nat):Int) L.length=true:=inBN hk
 have lp:=hT.par _ hin
 have hm:(L.take k).length+(L.drop (k+1)).length≤100000:=by rw [List.length_take,List.length_drop];omega
 have hbig:(L.take k).length+(L.drop (k+1)).length≤274877906944:=by omega
 have hs:(sortL (L.take k++L.drop (k+1))).length=(L.take k).length+(L.drop (k+1)).length:=by rw [sortL_len,List.length_append]
 have ht:List.take ((L.take k).length+(L.drop (k+1)).length) (List.drop 0 (sortL (L.take k++L.drop (k+1))))=sortL (L.take k++L.drop (k+1)):=by rw [List.drop_zero];exact List.take_of_length_le (by rw [hs];exact Nat.le_refl _)
 have hap:(L.take k++L.drop (k+1)).length=(L.take k).length+(L.drop (k+1)).length:=List.length_append
 unfold byJ restL at hb
 by_cases p1:(t (L.getD k 0).toNat).par=w
 ·rw [decide_eq_true p1,Bool.true_and,decide_eq_false_iff_not] at hb
  have e:=bk_n N t L xs xs.length w k
  rw [wk] at e
  refine Tr.cutX (byC_ok _) 60 _ 2 (Nat.zero_le _) _ e (bk_n' N t L xs xs.length w k) ?_
  rw [wk]
  simp only [Int.toNat_natCast,winL,ht,hs,hap,andT_iff,Bool.and_eq_true,decide_eq_true_eq,Bool.not_eq_true',decide_eq_false_iff_not,Nat.zero_add,true_and,and_true]
  and_intros<;>first|with_reducible assumption|exact decide_eq_true hbig|omega
 ·have e:=bk_m N t L xs xs.length w k
  rw [wk] at e
  refine Tr.cutX (byC_ok _) 60 _ 2 (Nat.zero_le _) _ e (bk_m' N t L xs xs.length w k) ?_
  rw [wk]
  simp only [Int.toNat_natCast,winL,ht,hs,hap,andT_iff,Bool.and_eq_true,decide_eq_true_eq,Bool.not_eq_true',decide_eq_false_iff_not,Nat.zero_add,true_and,and_true]
  and_intros<;>first|with_reducible assumption|exact decide_eq_true hbig|omega
theorem bk_out (hT:TOK N t) {L xs w:List Int} {k:Nat} (hk:k<L.length) (hL:L.length≤100000) (hd:0≤L.getD k 0∧L.getD k 0<N) (hw:w.length=32) (hx:xs.length≤1000) (hb:byJ t L w xs k=true):
  Tr Tryz.prog none 0 (inner (inner (nthC 8 byBd))) (bkS N t L xs xs.length w ((k:Nat):Int)) .ret ⟨slotsOf 87 [(6,.bool true)],[],true⟩:=by
 have wk:IntKind.i64.wrap ((k:Int)+1)=((k+1:Nat):Int):=wrapS (by omega)
 have hin:(L.getD k 0).toNat<N:=by omega
 have i1:inB (L.getD k 0) N=true:=by obtain ⟨y,hy⟩:=Int.eq_ofNat_of_zero_le hd.1;rw [hy];exact inBN (by omega)
 have i2:inB ((k:Nat):Int) L.length=true:=inBN hk
 have lp:=hT.par _ hin
 have hm:(L.take k).length+(L.drop (k+1)).length≤100000:=by rw [List.length_take,List.length_drop];omega
 have hbig:(L.take k).length+(L.drop (k+1)).length≤274877906944:=by omega
 have hs:(sortL (L.take k++L.drop (k+1))).length=(L.take k).length+(L.drop (k+1)).length:=by rw [sortL_len,List.length_append]
 have ht:List.take ((L.take k).length+(L.drop (k+1)).length) (List.drop 0 (sortL (L.take k++L.drop (k+1))))=sortL (L.take k++L.drop (k+1)):=by rw [List.drop_zero];exact List.take_of_length_le (by rw [hs];exact Nat.le_refl _)
 have hap:(L.take k++L.drop (k+1)).length=(L.take k).length+(L.drop (k+1)).length:=List.length_append
 unfold byJ restL at hb
 rw [Bool.and_eq_true,decide_eq_true_eq,decide_eq_true_eq] at hb
 obtain ⟨p1,p2⟩:=hb
 refine Tr.cutX (byC_ok _) 60 _ 0 (Nat.zero_le _) _ (bk_y N t L xs xs.length w k) (bk_y' N t L xs xs.length w k) ?_
 rw [wk]
 simp only [Int.toNat_natCast,winL,ht,hs,hap,andT_iff,Bool.and_eq_true,decide_eq_true_eq,Bool.not_eq_true',decide_eq_false_iff_not,Nat.zero_add,true_and,and_true]
 and_intros<;>first|with_reducible assumption|exact decide_eq_true hbig|omega
end
end Go.Proofs.YthlnlcijnoadcaaGreatDoor.Mk
end
section
namespace Go.Proofs.YthlnlcijnoadcaaGreatDoor.Mk
open Go Go.Sy Tr Wi S2
noncomputable def byB (t:Nat→Nod) (x c:Int):Bool:=byV t (resV t c) (markW t x (leftV x+rightV x-c)) (ownL (t x.toNat).un c)
section
variable {N:Nat} {t:Nat→Nod} {x c:Int}
theorem resV_ok (hT:TOK N t) (hc:checkB N t=true) (h0:0≤c) (h1:c<N):(resV t c).Nodup∧(∀e∈resV t c,0≤e∧2*firstV c≤e∧e≤2*lastV c∧e<N)∧(resV t c).length≤100000:=by
 obtain ⟨n,hn,hlv,hN,hg⟩:=check_parts hT hc
 have hs:=sizes_le hn
 obtain ⟨y,rfl⟩:=Int.eq_ofNat_of_zero_le h0
 have F:∀x,x<N→NodF t n x:=fun x hx=>nodF_of hn hN hx (hg x hx)
 obtain ⟨r1,r2⟩:=res_ok hn hN F (lvN 7 y) y (by omega) rfl
 have hb:=below_at (node_mk hn (z:=y) (by omega))
 have hl:=resL_len (check_un hT hc).1 hn hN (lvN 7 y) y (by omega) rfl
 have hp:2^lvN 7 y≤2^7:=Nat.pow_le_pow_right (by decide) (lvN_le 7 y)
 unfold resV
 rw [Int.toNat_natCast]
 refine ⟨r1,fun e he=>?_,by omega⟩
 have:=r2 e he
 omega
theorem by_fn (hT:TOK N t) (h:mkQ N t x c=true):FnTr Tryz.prog 82 [.rol false 99 N (tng t),.int .i64 x,.int .i64 c] [] (.bool (byB t x c)) []:=by
 obtain ⟨hc,h0,h1,h2,h3,h4,h5,h6,h7,h8,h9⟩:=mkQ_ok hT h
 obtain ⟨n,hn,hlv,hN,_⟩:=check_parts hT hc
 have hs:=sizes_le hn
 have hok:okT N (fun i=>coolL (tng t i))=true:=okT_tng hT
 have ht:(treeOf fun i=>coolL (tng t i))=t:=rfl
 have hx:x.toNat<N:=by omega
 have hin:inB x N=true:=by obtain ⟨y,rfl⟩:=Int.eq_ofNat_of_zero_le h0;exact inBN (by omega)
 have c0:0≤c:=by rcases h8 with rfl|rfl<;>omega
 have c1:c<N:=by rcases h8 with rfl|rfl<;>omega
 have hnode:Tr.nodeB c n=true:=by obtain ⟨y,rfl⟩:=Int.eq_ofNat_of_zero_le c0;exact node_mk hn (by omega)
 obtain ⟨r1,r2,r3⟩:=resV_ok hT hc c0 c1
 obtain ⟨hl,hr⟩:=un_of (check_un hT hc).1 hx
 have eL:rsnV N t c=resV t c:=by unfold rsnV;rw [decide_eq_true c0,decide_eq_true c1,hc];rfl
 have hw:(markW t x (leftV x+rightV x-c)).length=32:=shortW_len _
 have hown:=own_le (t x.toNat).un c (t x.toNat).un.length
 have eown:ownL ((t x.toNat).un.take (t x.toNat).un.length) c=ownL (t x.toNat).un c:=by rw [List.take_length]
 rw [eown] at hown
 have hh:=by_h N t x c
 rw [eL] at hh
 unfold byB
 generalize resV t c=L at*
 generalize hW:markW t x (leftV x+rightV x-c)=w at*
 have hm:=by_m N t x c L (ownL (t x.toNat).un c) (ownL (t x.toNat).un c).length
 rw [hW] at hm
 have hd:∀k,k<L.length→0≤L.getD k 0∧L.getD k 0<N:=fun k hk=>by
  have:=r2 (L.getD k 0) (by rw [getD_get hk];exact List.getElem_mem hk)
  omega
 have key:=FnTr.scan (P:=Tryz.prog) (args:=[.rol false 99 N (tng t),.int .i64 x,.int .i64 c]) (h:=[]) (h':=[]) Tryz.func82 rfl 8 2 (fun k:Nat=>bkS N t L (ownL (t x.toNat).un c) (ownL (t x.toNat).un c).length w k) (fun k=>!byJ t L w (ownL (t x.toNat).un c) k) L.length
  (fun y s' g=>?_) (by decide) (by kernel_rfl)
  (fun k hk hb _=>bk_next hT hk r3 (hd k hk) hw (by omega) (by simpa using hb)) (fun _=>⟨slotsOf 87 [(6,.bool true)],[],true⟩) (fun _=>[.bool true]) (fun k hk hb _=>⟨bk_out hT hk r3 (hd k hk) hw (by omega) (by simpa using hb),rfl,rfl⟩) (sE:=⟨slotsOf 87 [],[],true⟩) (sE':=⟨slotsOf 87 [(6,.bool false)],[],true⟩) (vE:=[.bool false]) (xE:=.ret) (fun _=>?_) (fun _=>⟨?_,.inl rfl,rfl,rfl⟩)
 ·rw [oneOf_scan (g:=SV.bool) (vF:=fun _:Nat=>true) (vE:=false)] at key
  have hv:scanV (fun k=>!byJ t L w (ownL (t x.toNat).un c) k) L.length (fun _=>true) false=byV t L w (ownL (t x.toNat).un c):=by
   unfold scanV byV;rw [←firstN_all];cases firstN _ _<;>rfl
  rw [hv] at key;exact key
 ·refine TrL.itemsX (byC_ok []) 60 5 _ 0 (Nat.zero_le _) (s1:=bo0 N t x c (firstV c) (lastV c) L (t x.toNat).un (.nl (.slice none 0 0)) 0 []) _ hh (by_h' N t x c) (by rw [hok,decide_eq_true hT.le,hlv,hnode,hin,decide_eq_true hx];rfl) (by decide) rfl ?_
  refine TrL.pre (s1:=boS N t x c (firstV c) (lastV c) L (t x.toNat).un (ownL ((t x.toNat).un.take 0) c) (ownL ((t x.toNat).un.take 0) c).length ((0:Nat):Int)) ?_ (Ent.nilBlk 10 rfl .i64 false true) (by intro q;cases q)
  refine TrL.item 5 (by decide) (s1:=⟨slotsOf 87 [(0,.rol false 99 N (tng t)),(1,.int .i64 x),(2,.int .i64 c),(7,.ro true .i64 L),(10,.sl 0 0 0 1 (ownL (t x.toNat).un c).length (ownL (t x.toNat).un c).length false true)],[.b [.ints .i64 (ownL (t x.toNat).un c).length (ownL (t x.toNat).un c)]],true⟩) (Tr.loop 0 (by kernel_rfl) (fun j=>boS N t x c (firstV c) (lastV c) L (t x.toNat).un (ownL ((t x.toNat).un.take j) c) (ownL ((t x.toNat).un.take j) c).length ((j:Nat):Int)) (t x.toNat).un.length (fun j hj=>own_step hT h L hj) ?_) ?_
  ·rw [eown]
   exact Tr.cutX (byC_ok _) 60 _ 1 (Nat.zero_le _) _ (bo_e N t x c (firstV c) (lastV c) L (t x.toNat).un (ownL (t x.toNat).un c) (ownL (t x.toNat).un c).length (t x.toNat).un.length) (bo_e' N t x c (firstV c) (lastV c) L (t x.toNat).un (ownL (t x.toNat).un c) (ownL (t x.toNat).un c).length (t x.toNat).un.length) (by rw [nltN (Nat.le_refl _)];rfl)
  ·exact TrL.itemsD (byC_ok []) 60 6 2 _ 2 (Nat.zero_le _) (s1:=bkS N t L (ownL (t x.toNat).un c) (ownL (t x.toNat).un c).length w ((0:Nat):Int)) _ hm (by_m' N t x c L (ownL (t x.toNat).un c) (ownL (t x.toNat).un c).length) (by rw [ht,hok,decide_eq_true hT.le,h];rfl) (by decide) rfl g
 ·exact Tr.cutX (byC_ok _) 60 _ 0 (Nat.zero_le _) (s':=⟨slotsOf 87 [],[],true⟩) _ (bk_e N t L (ownL (t x.toNat).un c) (ownL (t x.toNat).un c).length w L.length) (bk_e' N t L (ownL (t x.toNat).un c) (ownL (t x.toNat).un c).length w L.length) (by rw [nltN (Nat.le_refl _)];rfl)
 ·exact TrL.rest (byC_ok []) 60 (by kernel_rfl) rfl
end
noncomputable def byE:Entry Tryz.prog:=.val 82 _ Tryz.func82 (by decide) rfl true 0 (fun vs=>match vs with
 | [.rol false 99 N g,.int .i64 x,.int .i64 c]=>some (.bool (byB (treeOf g) x c),[],okT N g&&decide (N≤71)&&mkQ N (treeOf g) x c)
 |_=>none) fun vs v new e=>by
 split at e
 ·simp only [Option.some.injEq,Prod.mk.injEq,Bool.and_eq_true,decide_eq_true_eq] at e
  obtain ⟨rfl,rfl,⟨h1,h2⟩,h3⟩:=e
  exact FnTr.conv (by_fn (TOK.of h1 h2) h3) ⟨VE.tree h1,VE.refl _,VE.refl _,trivial⟩ trivial (VE.refl _) trivial
 ·cases e
noncomputable def pbC (b:Bool) (l:List (Nat×Bool)):Ctr:=mk (P:=Tryz.prog) [checkE b,childrenE,byE] [] (uT l)
theorem pbC_ok (b:Bool) (l:List (Nat×Bool)):CtrSound Tryz.prog (pbC b l):=mk_sound _ InlOK.nil _ _
noncomputable def pbB:Code:=bodyOf Tryz.f37
noncomputable def pbS (N:Nat) (t:Nat→Nod) (x:Int):St:=⟨slotsOf 39 [(0,.rol false 99 N (tng t)),(3,.int .i64 x)],[],true⟩
theorem pb_no (N:Nat) (t:Nat→Nod):(callS Tryz.prog (pbC false []) 60 Tryz.f37 [.rol false 99 N (tng t)] []).map (fun x=>(x.1,x.2.2))=some (.bool false,andT true (andT true ((okT N fun i=>coolL (tng t i))&&decide (N≤71)&&checkB N (treeOf fun i=>coolL (tng t i))==false))):=by kernel_rfl
theorem pb_h (N:Nat) (t:Nat→Nod):resX (cutR [0,3] 0 ((execL Tryz.prog (pbC true []) 60 0 4 (atoms pbB) ⟨slots0 Tryz.f37.ntmps [.rol false 99 N (tng t)],[],true⟩).map fun s=>(Exit.normal,s)))=some (.normal,(pbS N t 1).t,[]):=by kernel_rfl
theorem pb_h' (N:Nat) (t:Nat→Nod):obX (cutR [0,3] 0 ((execL Tryz.prog (pbC true []) 60 0 4 (atoms pbB) ⟨slots0 Tryz.f37.ntmps [.rol false 99 N (tng t)],[],true⟩).map fun s=>(Exit.normal,s)))=(andT true (andT true ((okT N fun i=>coolL (tng t i))&&decide (N≤71)&&checkB N (treeOf fun i=>coolL (tng t i))==true))):=by kernel_rfl
theorem pb_u (N:Nat) (t:Nat→Nod) (x:Int):resX (cutR [0,3] 0 (exec Tryz.prog (pbC true [(12,true),(25,false)]) 60 0 (inner (inner (nthC 4 pbB))) (pbS N t x)))=some (.normal,(pbS N t (IntKind.i64.wrap (x+2))).t,[]):=by kernel_rfl
theorem pb_u' (N:Nat) (t:Nat→Nod) (x:Int):obX (cutR [0,3] 0 (exec Tryz.prog (pbC true [(12,true),(25,false)]) 60 0 (inner (inner (nthC 4 pbB))) (pbS N t x)))=(andT (andT (andT (andT (andT true (decide (x<((N:Nat):Int)))) (andT true (decide (0≤x)&&decide (x<64)))) (inB x N)) (true&&(decide (x.toNat<N)&&true))) !(t x.toNat).1):=by kernel_rfl
theorem pb_l (N:Nat) (t:Nat→Nod) (x:Int):resX (cutR [0,3] 0 (exec Tryz.prog (pbC true [(12,true),(25,true),(32,false)]) 60 0 (inner (inner (nthC 4 pbB))) (pbS N t x)))=some (.normal,(pbS N t (IntKind.i64.wrap (x+2))).t,[]):=by kernel_rfl
theorem pb_l' (N:Nat) (t:Nat→Nod) (x:Int):obX (cutR [0,3] 0 (exec Tryz.prog (pbC true [(12,true),(25,true),(32,false)]) 60 0 (inner (inner (nthC 4 pbB))) (pbS N t x)))=(andT (andT (andT (andT (andT (andT (andT true (decide (x<((N:Nat):Int)))) (andT true (decide (0≤x)&&decide (x<64)))) (inB x N)) (true&&(decide (x.toNat<N)&&true))) (t x.toNat).1) (andT true ((okT N fun i=>coolL (tng t i))&&decide (N≤71)&&mkQ N (treeOf fun i=>coolL (tng t i)) x (leftV x)))) !!byB (treeOf fun i=>coolL (tng t i)) x (leftV x)):=by kernel_rfl
theorem pb_r (N:Nat) (t:Nat→Nod) (x:Int):resX (cutR [0,3] 0 (exec Tryz.prog (pbC true [(12,true),(25,true),(32,true),(38,false)]) 60 0 (inner (inner (nthC 4 pbB))) (pbS N t x)))=some (.normal,(pbS N t (IntKind.i64.wrap (x+2))).t,[]):=by kernel_rfl
theorem pb_r' (N:Nat) (t:Nat→Nod) (x:Int):obX (cutR [0,3] 0 (exec Tryz.prog (pbC true [(12,true),(25,true),(32,true),(38,false)]) 60 0 (inner (inner (nthC 4 pbB))) (pbS N t x)))=(andT (andT (andT (andT (andT (andT (andT (andT (andT true (decide (x<((N:Nat):Int)))) (andT true (decide (0≤x)&&decide (x<64)))) (inB x N)) (true&&(decide (x.toNat<N)&&true))) (t x.toNat).1) (andT true ((okT N fun i=>coolL (tng t i))&&decide (N≤71)&&mkQ N (treeOf fun i=>coolL (tng t i)) x (leftV x)))) !byB (treeOf fun i=>coolL (tng t i)) x (leftV x)) (andT true ((okT N fun i=>coolL (tng t i))&&decide (N≤71)&&mkQ N (treeOf fun i=>coolL (tng t i)) x (rightV x)))) !!byB (treeOf fun i=>coolL (tng t i)) x (rightV x)):=by kernel_rfl
theorem pb_o (N:Nat) (t:Nat→Nod) (x:Int):resX (cutR [2] 0 (exec Tryz.prog (pbC true [(12,true),(25,true),(32,true),(38,true)]) 60 0 (inner (inner (nthC 4 pbB))) (pbS N t x)))=some (.ret,slotsOf 39 [(2,.bool false)],[]):=by kernel_rfl
theorem pb_o' (N:Nat) (t:Nat→Nod) (x:Int):obX (cutR [2] 0 (exec Tryz.prog (pbC true [(12,true),(25,true),(32,true),(38,true)]) 60 0 (inner (inner (nthC 4 pbB))) (pbS N t x)))=(andT (andT (andT (andT (andT (andT (andT (andT (andT true (decide (x<((N:Nat):Int)))) (andT true (decide (0≤x)&&decide (x<64)))) (inB x N)) (true&&(decide (x.toNat<N)&&true))) (t x.toNat).1) (andT true ((okT N fun i=>coolL (tng t i))&&decide (N≤71)&&mkQ N (treeOf fun i=>coolL (tng t i)) x (leftV x)))) !byB (treeOf fun i=>coolL (tng t i)) x (leftV x)) (andT true ((okT N fun i=>coolL (tng t i))&&decide (N≤71)&&mkQ N (treeOf fun i=>coolL (tng t i)) x (rightV x)))) !byB (treeOf fun i=>coolL (tng t i)) x (rightV x)):=by kernel_rfl
theorem pb_e (N:Nat) (t:Nat→Nod) (x:Int):resX (cutR [] 0 (exec Tryz.prog (pbC true [(12,false)]) 60 0 (inner (inner (nthC 4 pbB))) (pbS N t x)))=some (.exit 0,slotsOf 39 [],[]):=by kernel_rfl
theorem pb_e' (N:Nat) (t:Nat→Nod) (x:Int):obX (cutR [] 0 (exec Tryz.prog (pbC true [(12,false)]) 60 0 (inner (inner (nthC 4 pbB))) (pbS N t x)))=(andT true !decide (x<((N:Nat):Int))):=by kernel_rfl
noncomputable def okX (t:Nat→Nod) (i:Nat):Bool:=!(t (2*i+1)).used||byB t ((2*i+1:Nat):Int) (leftV ((2*i+1:Nat):Int))||byB t ((2*i+1:Nat):Int) (rightV ((2*i+1:Nat):Int))
noncomputable def boundB (N:Nat) (t:Nat→Nod):Bool:=checkB N t&&(List.range (N/2)).all (okX t)
section
variable {N:Nat} {t:Nat→Nod}
theorem kids_ok (hT:TOK N t) (hc:checkB N t=true) {i:Nat} (hi:2*i+1<N):mkQ N t ((2*i+1:Nat):Int) (leftV ((2*i+1:Nat):Int))=true∧mkQ N t ((2*i+1:Nat):Int) (rightV ((2*i+1:Nat):Int))=true∧(0≤leftV ((2*i+1:Nat):Int)∧leftV ((2*i+1:Nat):Int)<N)∧0≤rightV ((2*i+1:Nat):Int)∧rightV ((2*i+1:Nat):Int)<N:=by
 obtain ⟨n,hn,_,hN,_⟩:=check_parts hT hc
 have hk:∃k,lvN 7 (2*i+1)=k+1:=by
  rw [lvN,show (2*i+1)%2=1 by omega]
  exact ⟨_,rfl⟩
 obtain ⟨k,hk⟩:=hk
 obtain ⟨a1,a2,a3,a4,_⟩:=kid_succ hn (show 2*i+1<2*n-1 by omega) hk
 have hd:dgQ N t ((2*i+1:Nat):Int)=true:=by unfold dgQ;rw [hc,decide_eq_true (show (0:Int)≤((2*i+1:Nat):Int) by omega),decide_eq_true (show ((2*i+1:Nat):Int)<N by omega)];rfl
 unfold mkQ
 rw [hd,a1,a2]
 generalize 2^k=q at a3 a4 ⊢
 refine ⟨?_,?_,by omega,by omega,by omega⟩
 ·rw [decide_eq_true (show (0:Int)≤((2*i+1-q:Nat):Int) by omega)];simp
 ·rw [decide_eq_true (show (0:Int)≤((2*i+1+q:Nat):Int) by omega)];simp
theorem bound_fn (hT:TOK N t):FnTr Tryz.prog 37 [.rol false 99 N (tng t)] [] (.bool (boundB N t)) []:=by
 have hok:okT N (fun i=>coolL (tng t i))=true:=okT_tng hT
 have ht:(treeOf fun i=>coolL (tng t i))=t:=rfl
 have hle:=hT.le
 unfold boundB
 cases hc:checkB N t with
 |false=>
  exact call0 (pbC_ok _ _) 60 Tryz.func37 (pb_no N t) (by rw [ht,hok,decide_eq_true hle,hc];rfl) rfl
 |true=>
 obtain ⟨n,hn,hlv,hN,_⟩:=check_parts hT hc
 have hs:=sizes_le hn
 have key:=FnTr.scan (P:=Tryz.prog) (args:=[.rol false 99 N (tng t)]) (h:=[]) (h':=[]) Tryz.func37 rfl 4 0 (fun i:Nat=>pbS N t ((2*i+1:Nat):Int)) (okX t) (N/2)
  (fun y s' g=>TrL.itemsX (pbC_ok true []) 60 4 _ 0 (Nat.zero_le _) (s1:=pbS N t ((2*0+1:Nat):Int)) _ (pb_h N t) (pb_h' N t) (by rw [ht,hok,decide_eq_true hle,hc];rfl) (by decide) rfl g) (by decide) (by kernel_rfl)
  (fun i hi hb _=>?_) (fun _=>⟨slotsOf 39 [(2,.bool false)],[],true⟩) (fun _=>[.bool false]) (fun i hi hb _=>⟨?_,rfl,rfl⟩) (sE:=⟨slotsOf 39 [],[],true⟩) (sE':=⟨slotsOf 39 [(2,.bool true)],[],true⟩) (vE:=[.bool true]) (xE:=.ret) (fun _=>?_) (fun _=>⟨?_,.inl rfl,rfl,rfl⟩)
 ·rw [oneOf_scan (g:=SV.bool) (vF:=fun _:Nat=>false) (vE:=true)] at key
  have hv:scanV (okX t) (N/2) (fun _=>false) true=(true&&(List.range (N/2)).all (okX t)):=by
   unfold scanV;rw [←firstN_all];cases firstN _ _<;>rfl
  rw [hv] at key;exact key
 ·have hi:2*i+1<N:=by omega
  obtain ⟨k1,k2,_,_⟩:=kids_ok hT hc hi
  have w2:IntKind.i64.wrap (((2*i+1:Nat):Int)+2)=((2*(i+1)+1:Nat):Int):=by rw [wrapI (by omega) (by omega)];omega
  have o1:decide (((2*i+1:Nat):Int)<((N:Nat):Int))=true:=decide_eq_true (by omega)
  have o2:decide ((0:Int)≤((2*i+1:Nat):Int))=true:=decide_eq_true (by omega)
  have o3:decide (((2*i+1:Nat):Int)<64)=true:=decide_eq_true (by omega)
  unfold okX at hb
  cases hu:(t (2*i+1)).used with
  |false=>
   have e:=pb_u N t ((2*i+1:Nat):Int)
   rw [w2] at e
   exact Tr.cutX (pbC_ok true _) 60 _ 0 (Nat.zero_le _) (s':=pbS N t ((2*(i+1)+1:Nat):Int)) _ e (pb_u' N t _) (by rw [Int.toNat_natCast,o1,o2,o3,inBN hi,decide_eq_true hi,show (t (2*i+1)).1=false from hu];rfl)
  |true=>
   rw [hu] at hb
   cases h1:byB t ((2*i+1:Nat):Int) (leftV ((2*i+1:Nat):Int)) with
   |true=>
    have e:=pb_l N t ((2*i+1:Nat):Int)
    rw [w2] at e
    exact Tr.cutX (pbC_ok true _) 60 _ 0 (Nat.zero_le _) (s':=pbS N t ((2*(i+1)+1:Nat):Int)) _ e (pb_l' N t _) (by rw [Int.toNat_natCast,o1,o2,o3,inBN hi,decide_eq_true hi,show (t (2*i+1)).1=true from hu,ht,hok,decide_eq_true hle,k1,h1];rfl)
   |false=>
    rw [h1] at hb
    have h2:byB t ((2*i+1:Nat):Int) (rightV ((2*i+1:Nat):Int))=true:=hb
    have e:=pb_r N t ((2*i+1:Nat):Int)
    rw [w2] at e
    exact Tr.cutX (pbC_ok true _) 60 _ 0 (Nat.zero_le _) (s':=pbS N t ((2*(i+1)+1:Nat):Int)) _ e (pb_r' N t _) (by rw [Int.toNat_natCast,o1,o2,o3,inBN hi,decide_eq_true hi,show (t (2*i+1)).1=true from hu,ht,hok,decide_eq_true hle,k1,k2,h1,h2];rfl)
 ·have hi:2*i+1<N:=by omega
  obtain ⟨k1,k2,_,_⟩:=kids_ok hT hc hi
  have o1:decide (((2*i+1:Nat):Int)<((N:Nat):Int))=true:=decide_eq_true (by omega)
  have o2:decide ((0:Int)≤((2*i+1:Nat):Int))=true:=decide_eq_true (by omega)
  have o3:decide (((2*i+1:Nat):Int)<64)=true:=decide_eq_true (by omega)
  unfold okX at hb
  rw [Bool.or_eq_false_iff,Bool.or_eq_false_iff,Bool.not_eq_false'] at hb
  obtain ⟨⟨hu,h1⟩,h2⟩:=hb
  exact Tr.cutX (pbC_ok true _) 60 _ 0 (Nat.zero_le _) (s':=⟨slotsOf 39 [(2,.bool false)],[],true⟩) _ (pb_o N t ((2*i+1:Nat):Int)) (pb_o' N t _) (by rw [Int.toNat_natCast,o1,o2,o3,inBN hi,decide_eq_true hi,show (t (2*i+1)).1=true from hu,ht,hok,decide_eq_true hle,k1,k2,h1,h2];rfl)
 ·exact Tr.cutX (pbC_ok true _) 60 _ 0 (Nat.zero_le _) (s':=⟨slotsOf 39 [],[],true⟩) _ (pb_e N t ((2*(N/2)+1:Nat):Int)) (pb_e' N t _) (by rw [decide_eq_false (show ¬((2*(N/2)+1:Nat):Int)<((N:Nat):Int) by omega)];rfl)
 ·exact TrL.rest (pbC_ok true []) 60 (by kernel_rfl) rfl
end
end Go.Proofs.YthlnlcijnoadcaaGreatDoor.Mk
end
