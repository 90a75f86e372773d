/- This file holds the texts MkM, MkN, a section each. No conditions beyond those in the theorems. -/
import Derived.Test.YthlnlcijnoadcaaGreatDoorBMkL
set_option linter.all false
set_option maxRecDepth 100000
section
namespace Go.Proofs.YthlnlcijnoadcaaGreatDoor.Mk
open Go Go.Sy Tr Wi S2
open Q2 (shortQ shortDRE By shortW_eq)
def mkQ (N:Nat) (t:Nat→Nod) (x c:Int):Bool:=dgQ N t x&&(decide (0≤c)&&(c==leftV x||c==rightV x))
noncomputable def markW (t:Nat→Nod) (x s:Int):List Int:=shortW [[3],(t x.toNat).key,(t x.toNat).par,digV t (t x.toNat).un s].flatten
noncomputable def mkL (N:Nat) (t:Nat→Nod) (x c:Int):List Int:=bif mkQ N t x c then markW t x (leftV x+rightV x-c) else z32
section
variable {N:Nat} {t:Nat→Nod} {x c:Int}
theorem mkQ_ok (hT:TOK N t) (h:mkQ N t x c=true):checkB N t=true∧0≤x∧x<N∧x<64∧0≤leftV x∧leftV x<N∧0≤rightV x∧rightV x<N∧(N:Int)≤71∧(c=leftV x∨c=rightV x)∧leftV x≠rightV x:=by
 unfold mkQ dgQ at h
 simp only [Bool.and_eq_true,Bool.or_eq_true,decide_eq_true_eq,beq_iff_eq] at h
 obtain ⟨⟨⟨h0,h1⟩,hc⟩,h2,h3⟩:=h
 obtain ⟨n,hn,_,hN,_⟩:=check_parts hT hc
 have hs:=sizes_le hn
 obtain ⟨y,rfl⟩:=Int.eq_ofNat_of_zero_le h0
 have hle:=hT.le
 cases hl:lvN 7 y with
 |zero=>
  obtain ⟨a,b⟩:=kid_zero hn (show y<2*n-1 by omega) hl
  omega
 |succ k=>
  obtain ⟨a1,a2,a3,a4,_,_,a7⟩:=kid_succ hn (show y<2*n-1 by omega) hl
  have hp:1≤2^k:=Nat.one_le_two_pow
  refine ⟨hc,h0,h1,by omega,by omega,by omega,by omega,by omega,by omega,h3,by omega⟩
end
noncomputable def mrC (l:List (Nat×Bool)):Ctr:=mk (P:=Tryz.prog) [childrenE,digE 8 (digest_fn 8),shortE] [] (uT l)
theorem mrC_ok (l:List (Nat×Bool)):CtrSound Tryz.prog (mrC l):=mk_sound _ InlOK.nil _ _
theorem mr_a (N:Nat) (t:Nat→Nod) (x c:Int):(callS Tryz.prog (mrC []) 60 Tryz.f83 [.rol false 99 N (tng t),.int .i64 x,.int .i64 c] []).map (fun x=>(x.1,x.2.2))=some (.agg [.ints .u8 32 (markW t x (IntKind.i64.wrap (IntKind.i64.wrap (leftV x+rightV x)-c)))],andT (andT (andT (andT (andT (andT (andT (andT (andT (andT true (andT true (decide (0≤x)&&decide (x<64)))) (inB x N)) (true&&(decide (x.toNat<N)&&true))) (andT true ((okT N fun i=>coolL (tng t i))&&decide (N≤71)&&digOK N (treeOf fun i=>coolL (tng t i)) (t x.toNat).un (IntKind.i64.wrap (IntKind.i64.wrap (leftV x+rightV x)-c)) 8))) (inB x N)) (true&&(decide (x.toNat<N)&&true&&true&&decide ((t x.toNat).key.length=32)))) (inB x N)) (true&&(decide (x.toNat<N)&&true&&true&&decide ((t x.toNat).par.length=32)))) (andT true (decide (0+0+32≤psize ([]++[SV.ints IntKind.u8 32 (digV (treeOf fun i=>coolL (tng t i)) (t x.toNat).un (IntKind.i64.wrap (IntKind.i64.wrap (leftV x+rightV x)-c)))]++[]))))) (andT (andT true (andT (andT true (decide ((digV (treeOf fun i=>coolL (tng t i)) (t x.toNat).un (IntKind.i64.wrap (IntKind.i64.wrap (leftV x+rightV x)-c))).length=32)&&true)) (decide ((digV (treeOf fun i=>coolL (tng t i)) (t x.toNat).un (IntKind.i64.wrap (IntKind.i64.wrap (leftV x+rightV x)-c))).length=32)))) (decide (([(List.replicate 1 0).set 0 3,(t x.toNat).key,(t x.toNat).par,digV (treeOf fun i=>coolL (tng t i)) (t x.toNat).un (IntKind.i64.wrap (IntKind.i64.wrap (leftV x+rightV x)-c))],andT (andT (andT (andT true (decide ((digV (treeOf fun i=>coolL (tng t i)) (t x.toNat).un (IntKind.i64.wrap (IntKind.i64.wrap (leftV x+rightV x)-c))).length=32)&&(decide ((32)≤32)&&decide ((0+0)=0)))) (decide ((digV (treeOf fun i=>coolL (tng t i)) (t x.toNat).un (IntKind.i64.wrap (IntKind.i64.wrap (leftV x+rightV x)-c))).length=32))) (decide (((List.replicate 1 0).set 0 3).length=1)&&(decide (1≤1)&&decide (0=0)))) (decide (((List.replicate 1 0).set 0 3).length=1))).fst.flatten.length<274877900000)&&decide (([(List.replicate 1 0).set 0 3,(t x.toNat).key,(t x.toNat).par,digV (treeOf fun i=>coolL (tng t i)) (t x.toNat).un (IntKind.i64.wrap (IntKind.i64.wrap (leftV x+rightV x)-c))],andT (andT (andT (andT true (decide ((digV (treeOf fun i=>coolL (tng t i)) (t x.toNat).un (IntKind.i64.wrap (IntKind.i64.wrap (leftV x+rightV x)-c))).length=32)&&(decide ((32)≤32)&&decide ((0+0)=0)))) (decide ((digV (treeOf fun i=>coolL (tng t i)) (t x.toNat).un (IntKind.i64.wrap (IntKind.i64.wrap (leftV x+rightV x)-c))).length=32))) (decide (((List.replicate 1 0).set 0 3).length=1)&&(decide (1≤1)&&decide (0=0)))) (decide (((List.replicate 1 0).set 0 3).length=1))).fst.length≤274877906944)))):=by kernel_rfl
noncomputable def rmkC (l:List (Nat×Bool)):Ctr:=mk (P:=Tryz.prog) [rChildrenE,rDigestE,shortDRE] [] (uT l)
theorem rmkC_ok (l:List (Nat×Bool)):CtrSound Tryz.prog (rmkC l):=mk_sound _ InlOK.nil _ _
theorem rmk_l (N:Nat) (t:Nat→Nod) (x c:Int):(callS Tryz.prog (rmkC [(20,true),(43,true),(45,true)]) 60 Tryz.f42 [.rol false 99 N (tng t),.int .i64 x,.int .i64 c] []).map (fun x=>(x.1,x.2.2))=some (.agg [.ints .u8 32 (shortQ ((([3]++(t x.toNat).key)++(t x.toNat).par)++digV t (t x.toNat).un (rightV x)))],andT (andT (andT (andT (andT (andT (andT (andT (andT (andT (andT (andT (andT true (andT true (decide (0≤x)&&decide (x<64)))) (c==leftV x)) (inB x N)) (true&&(decide (x.toNat<N)&&true))) (andT true ((okT N fun i=>coolL (tng t i))&&decide (N≤71)&&decide ((t x.toNat).un.length≤274877906944)&&dgQ N (treeOf fun i=>coolL (tng t i)) (rightV x)&&bytT N (treeOf fun i=>coolL (tng t i))))) (inB x N)) (true&&(decide (x.toNat<N)&&true&&true&&decide ((t x.toNat).key.length=32)))) (andT true (decide (1+(t x.toNat).key.length≤2^38)))) (inB x N)) (true&&(decide (x.toNat<N)&&true&&true&&decide ((t x.toNat).par.length=32)))) (andT (andT (andT true (decide (((List.replicate 1 0).set 0 3++(t x.toNat).key).length=1+(t x.toNat).key.length)&&(decide (1+(t x.toNat).key.length≤1+(t x.toNat).key.length)&&true))) (decide (((List.replicate 1 0).set 0 3++(t x.toNat).key).length=1+(t x.toNat).key.length))) (decide (1+(t x.toNat).key.length+(t x.toNat).par.length≤2^38)))) (andT (andT (andT (decide ((digV (treeOf fun i=>coolL (tng t i)) (t x.toNat).un (rightV x)).length=32)&&true) (decide (((List.replicate 1 0).set 0 3++(t x.toNat).key++(t x.toNat).par).length=1+(t x.toNat).key.length+(t x.toNat).par.length)&&(decide (1+(t x.toNat).key.length+(t x.toNat).par.length≤1+(t x.toNat).key.length+(t x.toNat).par.length)&&true))) (decide (((List.replicate 1 0).set 0 3++(t x.toNat).key++(t x.toNat).par).length=1+(t x.toNat).key.length+(t x.toNat).par.length))) (decide ((1+(t x.toNat).key.length+(t x.toNat).par.length+32)≤2^38)))) (andT (andT (decide (((List.replicate 1 0).set 0 3++(t x.toNat).key++(t x.toNat).par++digV (treeOf fun i=>coolL (tng t i)) (t x.toNat).un (rightV x)).length=1+(t x.toNat).key.length+(t x.toNat).par.length+32)&&(decide ((1+(t x.toNat).key.length+(t x.toNat).par.length+32)≤1+(t x.toNat).key.length+(t x.toNat).par.length+32)&&true)) (decide (((List.replicate 1 0).set 0 3++(t x.toNat).key++(t x.toNat).par++digV (treeOf fun i=>coolL (tng t i)) (t x.toNat).un (rightV x)).length=1+(t x.toNat).key.length+(t x.toNat).par.length+32))) (decide (((List.replicate 1 0).set 0 3++(t x.toNat).key++(t x.toNat).par++digV (treeOf fun i=>coolL (tng t i)) (t x.toNat).un (rightV x)).length<274877900000)))):=by kernel_rfl
theorem rmk_r (N:Nat) (t:Nat→Nod) (x c:Int):(callS Tryz.prog (rmkC [(20,false),(43,true),(45,true)]) 60 Tryz.f42 [.rol false 99 N (tng t),.int .i64 x,.int .i64 c] []).map (fun x=>(x.1,x.2.2))=some (.agg [.ints .u8 32 (shortQ ((([3]++(t x.toNat).key)++(t x.toNat).par)++digV t (t x.toNat).un (leftV x)))],andT (andT (andT (andT (andT (andT (andT (andT (andT (andT (andT (andT (andT true (andT true (decide (0≤x)&&decide (x<64)))) !c==leftV x) (inB x N)) (true&&(decide (x.toNat<N)&&true))) (andT true ((okT N fun i=>coolL (tng t i))&&decide (N≤71)&&decide ((t x.toNat).un.length≤274877906944)&&dgQ N (treeOf fun i=>coolL (tng t i)) (leftV x)&&bytT N (treeOf fun i=>coolL (tng t i))))) (inB x N)) (true&&(decide (x.toNat<N)&&true&&true&&decide ((t x.toNat).key.length=32)))) (andT true (decide (1+(t x.toNat).key.length≤2^38)))) (inB x N)) (true&&(decide (x.toNat<N)&&true&&true&&decide ((t x.toNat).par.length=32)))) (andT (andT (andT true (decide (((List.replicate 1 0).set 0 3++(t x.toNat).key).length=1+(t x.toNat).key.length)&&(decide (1+(t x.toNat).key.length≤1+(t x.toNat).key.length)&&true))) (decide (((List.replicate 1 0).set 0 3++(t x.toNat).key).length=1+(t x.toNat).key.length))) (decide (1+(t x.toNat).key.length+(t x.toNat).par.length≤2^38)))) (andT (andT (andT (decide ((digV (treeOf fun i=>coolL (tng t i)) (t x.toNat).un (leftV x)).length=32)&&true) (decide (((List.replicate 1 0).set 0 3++(t x.toNat).key++(t x.toNat).par).length=1+(t x.toNat).key.length+(t x.toNat).par.length)&&(decide (1+(t x.toNat).key.length+(t x.toNat).par.length≤1+(t x.toNat).key.length+(t x.toNat).par.length)&&true))) (decide (((List.replicate 1 0).set 0 3++(t x.toNat).key++(t x.toNat).par).length=1+(t x.toNat).key.length+(t x.toNat).par.length))) (decide ((1+(t x.toNat).key.length+(t x.toNat).par.length+32)≤2^38)))) (andT (andT (decide (((List.replicate 1 0).set 0 3++(t x.toNat).key++(t x.toNat).par++digV (treeOf fun i=>coolL (tng t i)) (t x.toNat).un (leftV x)).length=1+(t x.toNat).key.length+(t x.toNat).par.length+32)&&(decide ((1+(t x.toNat).key.length+(t x.toNat).par.length+32)≤1+(t x.toNat).key.length+(t x.toNat).par.length+32)&&true)) (decide (((List.replicate 1 0).set 0 3++(t x.toNat).key++(t x.toNat).par++digV (treeOf fun i=>coolL (tng t i)) (t x.toNat).un (leftV x)).length=1+(t x.toNat).key.length+(t x.toNat).par.length+32))) (decide (((List.replicate 1 0).set 0 3++(t x.toNat).key++(t x.toNat).par++digV (treeOf fun i=>coolL (tng t i)) (t x.toNat).un (leftV x)).length<274877900000)))):=by kernel_rfl
section
variable {N:Nat} {t:Nat→Nod} {x c:Int}
theorem mark_fn (hT:TOK N t) (h:mkQ N t x c=true):FnTr Tryz.prog 83 [.rol false 99 N (tng t),.int .i64 x,.int .i64 c] [] (.agg [.ints .u8 32 (markW t x (leftV x+rightV x-c))]) []:=by
 obtain ⟨hc,h0,h1,h2,h3,h4,h5,h6,h7,h8,h9⟩:=mkQ_ok hT h
 have hok:okT N (fun i=>coolL (tng t i))=true:=okT_tng hT
 have ht:(treeOf fun i=>coolL (tng t i))=t:=rfl
 have e:=mr_a N t x c
 rw [wrapI (n:=leftV x+rightV x) (by omega) (by omega),wrapI (n:=leftV x+rightV x-c) (by omega) (by omega)] at e
 have hi:x.toNat<N:=by omega
 have hw:=hT.un x.toNat hi
 have hd:=check_dig hT hc hw (x:=leftV x+rightV x-c) (by omega) (by omega)
 have hin:inB x N=true:=by
  obtain ⟨y,rfl⟩:=Int.eq_ofNat_of_zero_le h0
  exact inBN (by omega)
 have l1:=hT.key x.toNat hi
 have l2:=hT.par x.toNat hi
 have l3:=digV_len t (t x.toNat).un (leftV x+rightV x-c)
 refine call0 (mrC_ok []) 60 Tryz.func83 e ?_ rfl
 rw [ht,hok,hin,hd,decide_eq_true hi,decide_eq_true hT.le,decide_eq_true h0,decide_eq_true h2]
 simp [andT_iff,l1,l2,l3,psize,psz]
theorem rMark_fn (hT:TOK N t) (h:mkQ N t x c=true) (hb:bytT N t=true):FnTr Tryz.prog 42 [.rol false 99 N (tng t),.int .i64 x,.int .i64 c] [] (.agg [.ints .u8 32 (markW t x (leftV x+rightV x-c))]) []:=by
 obtain ⟨hc,h0,h1,h2,h3,h4,h5,h6,h7,h8,h9⟩:=mkQ_ok hT h
 have hok:okT N (fun i=>coolL (tng t i))=true:=okT_tng hT
 have ht:(treeOf fun i=>coolL (tng t i))=t:=rfl
 have hi:x.toNat<N:=by omega
 have hw:=hT.un x.toNat hi
 have hin:inB x N=true:=by
  obtain ⟨y,rfl⟩:=Int.eq_ofNat_of_zero_le h0
  exact inBN (by omega)
 have l1:=hT.key x.toNat hi
 have l2:=hT.par x.toNat hi
 have ok:=bytT_ok hT hb x.toNat hi
 have eq:∀s,markW t x s=shortQ ((([3]++(t x.toNat).key)++(t x.toNat).par)++digV t (t x.toNat).un s):=fun s=>by
  have l3:=digV_len t (t x.toNat).un s
  have hby:By (digV t (t x.toNat).un s):=by
   unfold digV
   cases lvN 7 s.toNat<;>(unfold digL;exact short_by _)
  have e:[[3],(t x.toNat).key,(t x.toNat).par,digV t (t x.toNat).un s].flatten=(([3]++(t x.toNat).key)++(t x.toNat).par)++digV t (t x.toNat).un s:=by
   simp only [List.flatten_cons,List.flatten_nil,List.append_nil,List.append_assoc]
  unfold markW
  rw [e]
  refine shortW_eq (by_app (by_app (by_app (by intro z hz;simp at hz;omega) ok.key.2) ok.par.2) hby) ?_
  simp only [List.length_append,List.length_cons,List.length_nil,l1,l2,l3];omega
 have q1:∀s:Int,0≤s→s<N→dgQ N t s=true:=fun s a b=>by unfold dgQ;rw [hc,decide_eq_true a,decide_eq_true b];rfl
 have dw:=decide_eq_true hw
 by_cases hcl:c=leftV x
 ·have e:=rmk_l N t x c
  rw [←eq] at e
  rw [show leftV x+rightV x-c=rightV x by omega]
  refine call0 (rmkC_ok _) 60 Tryz.func42 e ?_ rfl
  have l3:=digV_len t (t x.toNat).un (rightV x)
  rw [ht,hok,hin,q1 _ h5 h6,hb,dw,decide_eq_true hi,decide_eq_true hT.le,decide_eq_true h0,decide_eq_true h2,show (c==leftV x)=true from beq_iff_eq.2 hcl]
  simp [andT_iff,l1,l2,l3,psize,psz]
 ·have e:=rmk_r N t x c
  rw [←eq] at e
  rw [show leftV x+rightV x-c=leftV x by omega]
  refine call0 (rmkC_ok _) 60 Tryz.func42 e ?_ rfl
  have l3:=digV_len t (t x.toNat).un (leftV x)
  rw [ht,hok,hin,q1 _ h3 h4,hb,dw,decide_eq_true hi,decide_eq_true hT.le,decide_eq_true h0,decide_eq_true h2,show (c==leftV x)=false from beq_false_of_ne hcl]
  simp [andT_iff,l1,l2,l3,psize,psz]
end
noncomputable def markE:Entry Tryz.prog:=.val 83 _ Tryz.func83 (by decide) rfl true 0 (fun vs=>match vs with
 | [.rol false 99 N g,.int .i64 x,.int .i64 c]=>some (.agg [.ints .u8 32 (markW (treeOf g) x (leftV x+rightV x-c))],[],okT N g&&decide (N≤71)&&mkQ N (treeOf g) x c)
 |_=>none) fun vs v new e=>by
 split at e
 ·simp only [Option.some.injEq,Prod.mk.injEq,Bool.and_eq_true,decide_eq_true_eq] at e
  obtain ⟨rfl,rfl,⟨h1,h2⟩,h3⟩:=e
  exact FnTr.conv (mark_fn (TOK.of h1 h2) h3) ⟨VE.tree h1,VE.refl _,VE.refl _,trivial⟩ trivial (VE.refl _) trivial
 ·cases e
noncomputable def rMarkE:Entry Tryz.prog:=.val 42 _ Tryz.func42 (by decide) rfl true 0 (fun vs=>match vs with
 | [.rol false 99 N g,.int .i64 x,.int .i64 c]=>some (.agg [.ints .u8 32 (markW (treeOf g) x (leftV x+rightV x-c))],[],okT N g&&decide (N≤71)&&mkQ N (treeOf g) x c&&bytT N (treeOf g))
 |_=>none) fun vs v new e=>by
 split at e
 ·simp only [Option.some.injEq,Prod.mk.injEq,Bool.and_eq_true,decide_eq_true_eq] at e
  obtain ⟨rfl,rfl,⟨⟨h1,h2⟩,h3⟩,h4⟩:=e
  exact FnTr.conv (rMark_fn (TOK.of h1 h2) h3 h4) ⟨VE.tree h1,VE.refl _,VE.refl _,trivial⟩ trivial (VE.refl _) trivial
 ·cases e
noncomputable def mmC (b:Bool) (l:List (Nat×Bool)):Ctr:=mk (P:=Tryz.prog) [checkE b,childrenE,markE] [] (uT l)
theorem mmC_ok (b:Bool) (l:List (Nat×Bool)):CtrSound Tryz.prog (mmC b l):=mk_sound _ InlOK.nil _ _
abbrev noMark:SV:=.tup [.agg [.ints .u8 32 z32],.bool false]
theorem mm_a (N:Nat) (t:Nat→Nod) (x c:Int):(callS Tryz.prog (mmC true [(11,true)]) 60 Tryz.f40 [.rol false 99 N (tng t),.int .i64 x,.int .i64 c] []).map (fun x=>(x.1,x.2.2))=some (noMark,andT true (decide (x<0))):=by kernel_rfl
theorem mm_b (N:Nat) (t:Nat→Nod) (x c:Int):(callS Tryz.prog (mmC true [(11,false),(16,true)]) 60 Tryz.f40 [.rol false 99 N (tng t),.int .i64 x,.int .i64 c] []).map (fun x=>(x.1,x.2.2))=some (noMark,andT (andT true !decide (x<0)) (decide (x≥((N:Nat):Int)))):=by kernel_rfl
theorem mm_c (N:Nat) (t:Nat→Nod) (x c:Int):(callS Tryz.prog (mmC false [(11,false),(16,false)]) 60 Tryz.f40 [.rol false 99 N (tng t),.int .i64 x,.int .i64 c] []).map (fun x=>(x.1,x.2.2))=some (noMark,andT (andT (andT true !decide (x<0)) !decide (x≥((N:Nat):Int))) (andT true ((okT N fun i=>coolL (tng t i))&&decide (N≤71)&&checkB N (treeOf fun i=>coolL (tng t i))==false))):=by kernel_rfl
theorem mm_d (N:Nat) (t:Nat→Nod) (x c:Int):(callS Tryz.prog (mmC true [(11,false),(16,false),(30,true)]) 60 Tryz.f40 [.rol false 99 N (tng t),.int .i64 x,.int .i64 c] []).map (fun x=>(x.1,x.2.2))=some (noMark,andT (andT (andT (andT (andT true !decide (x<0)) !decide (x≥((N:Nat):Int))) (andT true ((okT N fun i=>coolL (tng t i))&&decide (N≤71)&&checkB N (treeOf fun i=>coolL (tng t i))==true))) (andT true (decide (0≤x)&&decide (x<64)))) (decide (c<0))):=by kernel_rfl
theorem mm_e (N:Nat) (t:Nat→Nod) (x c:Int):(callS Tryz.prog (mmC true [(11,false),(16,false),(30,false),(34,true),(38,true)]) 60 Tryz.f40 [.rol false 99 N (tng t),.int .i64 x,.int .i64 c] []).map (fun x=>(x.1,x.2.2))=some (noMark,andT (andT (andT (andT (andT (andT (andT true !decide (x<0)) !decide (x≥((N:Nat):Int))) (andT true ((okT N fun i=>coolL (tng t i))&&decide (N≤71)&&checkB N (treeOf fun i=>coolL (tng t i))==true))) (andT true (decide (0≤x)&&decide (x<64)))) !decide (c<0)) (c != leftV x)) (c != rightV x)):=by kernel_rfl
theorem mm_f (N:Nat) (t:Nat→Nod) (x c:Int):(callS Tryz.prog (mmC true [(11,false),(16,false),(30,false),(34,false)]) 60 Tryz.f40 [.rol false 99 N (tng t),.int .i64 x,.int .i64 c] []).map (fun x=>(x.1,x.2.2))=some (.tup [.agg [.ints .u8 32 (markW t x (leftV x+rightV x-c))],.bool true],andT (andT (andT (andT (andT (andT (andT true !decide (x<0)) !decide (x≥((N:Nat):Int))) (andT true ((okT N fun i=>coolL (tng t i))&&decide (N≤71)&&checkB N (treeOf fun i=>coolL (tng t i))==true))) (andT true (decide (0≤x)&&decide (x<64)))) !decide (c<0)) !c != leftV x) (andT true ((okT N fun i=>coolL (tng t i))&&decide (N≤71)&&mkQ N (treeOf fun i=>coolL (tng t i)) x c))):=by kernel_rfl
theorem mm_g (N:Nat) (t:Nat→Nod) (x c:Int):(callS Tryz.prog (mmC true [(11,false),(16,false),(30,false),(34,true),(38,false)]) 60 Tryz.f40 [.rol false 99 N (tng t),.int .i64 x,.int .i64 c] []).map (fun x=>(x.1,x.2.2))=some (.tup [.agg [.ints .u8 32 (markW t x (leftV x+rightV x-c))],.bool true],andT (andT (andT (andT (andT (andT (andT (andT true !decide (x<0)) !decide (x≥((N:Nat):Int))) (andT true ((okT N fun i=>coolL (tng t i))&&decide (N≤71)&&checkB N (treeOf fun i=>coolL (tng t i))==true))) (andT true (decide (0≤x)&&decide (x<64)))) !decide (c<0)) (c != leftV x)) !c != rightV x) (andT true ((okT N fun i=>coolL (tng t i))&&decide (N≤71)&&mkQ N (treeOf fun i=>coolL (tng t i)) x c))):=by kernel_rfl
section
variable {N:Nat} {t:Nat→Nod} {x c:Int}
theorem mMark_fn (hT:TOK N t):FnTr Tryz.prog 40 [.rol false 99 N (tng t),.int .i64 x,.int .i64 c] [] (.tup [.agg [.ints .u8 32 (mkL N t x c)],.bool (mkQ N t x c)]) []:=by
 have hok:okT N (fun i=>coolL (tng t i))=true:=okT_tng hT
 have ht:(treeOf fun i=>coolL (tng t i))=t:=rfl
 have no:mkQ N t x c=false→FnTr Tryz.prog 40 [.rol false 99 N (tng t),.int .i64 x,.int .i64 c] [] noMark []→FnTr Tryz.prog 40 [.rol false 99 N (tng t),.int .i64 x,.int .i64 c] [] (.tup [.agg [.ints .u8 32 (mkL N t x c)],.bool (mkQ N t x c)]) []:=fun q g=>by
  unfold mkL;rw [q];exact g
 by_cases h0:x<0
 ·exact no (by unfold mkQ dgQ;rw [decide_eq_false (show ¬0≤x by omega)];rfl) (call0 (mmC_ok _ _) 60 Tryz.func40 (mm_a N t x c) (by rw [decide_eq_true h0];rfl) rfl)
 have n0:=decide_eq_false h0
 by_cases h1:x≥N
 ·exact no (by unfold mkQ dgQ;rw [decide_eq_false (show ¬x<(N:Int) by omega),Bool.and_false];rfl) (call0 (mmC_ok _ _) 60 Tryz.func40 (mm_b N t x c) (by rw [n0,decide_eq_true h1];rfl) rfl)
 have n1:=decide_eq_false h1
 cases hc:checkB N t with
 |false=>exact no (by unfold mkQ dgQ;rw [hc,Bool.and_false];rfl) (call0 (mmC_ok _ _) 60 Tryz.func40 (mm_c N t x c) (by rw [n0,n1,ht,hok,decide_eq_true hT.le,hc];rfl) rfl)
 |true=>
 have hQ:dgQ N t x=true:=by unfold dgQ;rw [hc,decide_eq_true (show 0≤x by omega),decide_eq_true (show x<(N:Int) by omega)];rfl
 have h64:x<64:=by
  obtain ⟨n,hn,_,hN,_⟩:=check_parts hT hc
  have:=sizes_le hn
  omega
 have p0:decide (0≤x)=true:=decide_eq_true (by omega)
 have p1:decide (x<64)=true:=decide_eq_true h64
 by_cases h2:c<0
 ·exact no (by unfold mkQ;rw [decide_eq_false (show ¬0≤c by omega),Bool.false_and,Bool.and_false]) (call0 (mmC_ok _ _) 60 Tryz.func40 (mm_d N t x c) (by rw [n0,n1,ht,hok,decide_eq_true hT.le,hc,p0,p1,decide_eq_true h2];rfl) rfl)
 have n2:=decide_eq_false h2
 by_cases h3:c=leftV x
 ·have q:mkQ N t x c=true:=by unfold mkQ;rw [hQ,decide_eq_true (show 0≤c by omega),show (c==leftV x)=true from beq_iff_eq.2 h3];rfl
  unfold mkL;rw [q]
  exact call0 (mmC_ok _ _) 60 Tryz.func40 (mm_f N t x c) (by rw [n0,n1,ht,hok,decide_eq_true hT.le,hc,p0,p1,n2,q,show (c != leftV x)=false by simp [h3]];rfl) rfl
 ·by_cases h4:c=rightV x
  ·have q:mkQ N t x c=true:=by unfold mkQ;rw [hQ,decide_eq_true (show 0≤c by omega),show (c==rightV x)=true from beq_iff_eq.2 h4,Bool.or_true];rfl
   unfold mkL;rw [q]
   exact call0 (mmC_ok _ _) 60 Tryz.func40 (mm_g N t x c) (by rw [n0,n1,ht,hok,decide_eq_true hT.le,hc,p0,p1,n2,q,show (c != leftV x)=true by simp [h3],show (c != rightV x)=false by simp [h4]];rfl) rfl
  ·exact no (by unfold mkQ;rw [show (c==leftV x)=false from beq_false_of_ne h3,show (c==rightV x)=false from beq_false_of_ne h4,Bool.or_false,Bool.and_false,Bool.and_false]) (call0 (mmC_ok _ _) 60 Tryz.func40 (mm_e N t x c) (by rw [n0,n1,ht,hok,decide_eq_true hT.le,hc,p0,p1,n2,show (c != leftV x)=true by simp [h3],show (c != rightV x)=true by simp [h4]];rfl) rfl)
end
noncomputable def mMarkE:Entry Tryz.prog:=.val 40 _ Tryz.func40 (by decide) rfl true 0 (fun vs=>match vs with
 | [.rol false 99 N g,.int .i64 x,.int .i64 c]=>some (.tup [.agg [.ints .u8 32 (mkL N (treeOf g) x c)],.bool (mkQ N (treeOf g) x c)],[],okT N g&&decide (N≤71))
 |_=>none) fun vs v new e=>by
 split at e
 ·simp only [Option.some.injEq,Prod.mk.injEq,Bool.and_eq_true,decide_eq_true_eq] at e
  obtain ⟨rfl,rfl,h1,h2⟩:=e
  exact FnTr.conv (mMark_fn (TOK.of h1 h2)) ⟨VE.tree h1,VE.refl _,VE.refl _,trivial⟩ trivial (VE.refl _) trivial
 ·cases e
end Go.Proofs.YthlnlcijnoadcaaGreatDoor.Mk
end
section
namespace Go.Proofs.YthlnlcijnoadcaaGreatDoor.Mk
open Go Go.Sy Tr Wi S2
noncomputable def lmC (b:Bool) (l:List (Nat×Bool)):Ctr:=mk (P:=Tryz.prog) [alive15E,largeME,mMarkE,rChildrenGE,goodE b,rMarkE] [] (uT l)
theorem lmC_ok (b:Bool) (l:List (Nat×Bool)):CtrSound Tryz.prog (lmC b l):=mk_sound _ InlOK.nil _ _
theorem lm_a (N:Nat) (t:Nat→Nod) (x c:Int):(callS Tryz.prog (lmC true [(14,true)]) 60 Tryz.f9 [.rol false 99 N (tng t),.int .i64 x,.int .i64 c] []).map (fun x=>(x.1,x.2.2))=some (.bool true,andT (andT true (andT true (okT0 N fun i=>coolL (tng t i)))) (largeM N (treeOf fun i=>coolL (tng t i)))):=by kernel_rfl
theorem lm_b (N:Nat) (t:Nat→Nod) (x c:Int):(callS Tryz.prog (lmC false [(14,false),(55,true),(59,true)]) 60 Tryz.f9 [.rol false 99 N (tng t),.int .i64 x,.int .i64 c] []).map (fun x=>(x.1,x.2.2))=some (.bool true,andT (andT (andT (andT (andT (andT (andT (andT true (andT true (okT0 N fun i=>coolL (tng t i)))) !largeM N (treeOf fun i=>coolL (tng t i))) (andT true ((okT N fun i=>coolL (tng t i))&&decide (N≤71)))) (andT true (decide (IntKind.i64.min≤x)&&decide (x≤IntKind.i64.max)))) (andT true ((okT N fun i=>coolL (tng t i))&&decide (N≤71)&&goodQ N (treeOf fun i=>coolL (tng t i))==false))) !mkQ N (treeOf fun i=>coolL (tng t i)) x c) (decide ((mkL N (treeOf fun i=>coolL (tng t i)) x c).length=32))) (decide (mkL N (treeOf fun i=>coolL (tng t i)) x c=List.replicate 32 0))):=by kernel_rfl
theorem lm_c (N:Nat) (t:Nat→Nod) (x c:Int):(callS Tryz.prog (lmC true [(14,false),(32,true),(55,true),(59,true)]) 60 Tryz.f9 [.rol false 99 N (tng t),.int .i64 x,.int .i64 c] []).map (fun x=>(x.1,x.2.2))=some (.bool true,andT (andT (andT (andT (andT (andT (andT (andT (andT true (andT true (okT0 N fun i=>coolL (tng t i)))) !largeM N (treeOf fun i=>coolL (tng t i))) (andT true ((okT N fun i=>coolL (tng t i))&&decide (N≤71)))) (andT true (decide (IntKind.i64.min≤x)&&decide (x≤IntKind.i64.max)))) (andT true ((okT N fun i=>coolL (tng t i))&&decide (N≤71)&&goodQ N (treeOf fun i=>coolL (tng t i))==true))) (decide (x<0))) !mkQ N (treeOf fun i=>coolL (tng t i)) x c) (decide ((mkL N (treeOf fun i=>coolL (tng t i)) x c).length=32))) (decide (mkL N (treeOf fun i=>coolL (tng t i)) x c=List.replicate 32 0))):=by kernel_rfl
theorem lm_d (N:Nat) (t:Nat→Nod) (x c:Int):(callS Tryz.prog (lmC true [(14,false),(32,false),(38,true),(55,true),(59,true)]) 60 Tryz.f9 [.rol false 99 N (tng t),.int .i64 x,.int .i64 c] []).map (fun x=>(x.1,x.2.2))=some (.bool true,andT (andT (andT (andT (andT (andT (andT (andT (andT (andT true (andT true (okT0 N fun i=>coolL (tng t i)))) !largeM N (treeOf fun i=>coolL (tng t i))) (andT true ((okT N fun i=>coolL (tng t i))&&decide (N≤71)))) (andT true (decide (IntKind.i64.min≤x)&&decide (x≤IntKind.i64.max)))) (andT true ((okT N fun i=>coolL (tng t i))&&decide (N≤71)&&goodQ N (treeOf fun i=>coolL (tng t i))==true))) !decide (x<0)) (decide (x≥((N:Nat):Int)))) !mkQ N (treeOf fun i=>coolL (tng t i)) x c) (decide ((mkL N (treeOf fun i=>coolL (tng t i)) x c).length=32))) (decide (mkL N (treeOf fun i=>coolL (tng t i)) x c=List.replicate 32 0))):=by kernel_rfl
theorem lm_e (N:Nat) (t:Nat→Nod) (x c:Int):(callS Tryz.prog (lmC true [(14,false),(32,false),(38,false),(42,true),(55,true),(59,true)]) 60 Tryz.f9 [.rol false 99 N (tng t),.int .i64 x,.int .i64 c] []).map (fun x=>(x.1,x.2.2))=some (.bool true,andT (andT (andT (andT (andT (andT (andT (andT (andT (andT (andT true (andT true (okT0 N fun i=>coolL (tng t i)))) !largeM N (treeOf fun i=>coolL (tng t i))) (andT true ((okT N fun i=>coolL (tng t i))&&decide (N≤71)))) (andT true (decide (IntKind.i64.min≤x)&&decide (x≤IntKind.i64.max)))) (andT true ((okT N fun i=>coolL (tng t i))&&decide (N≤71)&&goodQ N (treeOf fun i=>coolL (tng t i))==true))) !decide (x<0)) !decide (x≥((N:Nat):Int))) (decide (c<0))) !mkQ N (treeOf fun i=>coolL (tng t i)) x c) (decide ((mkL N (treeOf fun i=>coolL (tng t i)) x c).length=32))) (decide (mkL N (treeOf fun i=>coolL (tng t i)) x c=List.replicate 32 0))):=by kernel_rfl
theorem lm_f (N:Nat) (t:Nat→Nod) (x c:Int):(callS Tryz.prog (lmC true [(14,false),(32,false),(38,false),(42,false),(47,true),(51,true),(55,true),(59,true)]) 60 Tryz.f9 [.rol false 99 N (tng t),.int .i64 x,.int .i64 c] []).map (fun x=>(x.1,x.2.2))=some (.bool true,andT (andT (andT (andT (andT (andT (andT (andT (andT (andT (andT (andT (andT true (andT true (okT0 N fun i=>coolL (tng t i)))) !largeM N (treeOf fun i=>coolL (tng t i))) (andT true ((okT N fun i=>coolL (tng t i))&&decide (N≤71)))) (andT true (decide (IntKind.i64.min≤x)&&decide (x≤IntKind.i64.max)))) (andT true ((okT N fun i=>coolL (tng t i))&&decide (N≤71)&&goodQ N (treeOf fun i=>coolL (tng t i))==true))) !decide (x<0)) !decide (x≥((N:Nat):Int))) !decide (c<0)) (c != rchL x)) (c != rchR x)) !mkQ N (treeOf fun i=>coolL (tng t i)) x c) (decide ((mkL N (treeOf fun i=>coolL (tng t i)) x c).length=32))) (decide (mkL N (treeOf fun i=>coolL (tng t i)) x c=List.replicate 32 0))):=by kernel_rfl
theorem lm_g (N:Nat) (t:Nat→Nod) (x c:Int):(callS Tryz.prog (lmC true [(14,false),(32,false),(38,false),(42,false),(47,false),(62,true),(68,true)]) 60 Tryz.f9 [.rol false 99 N (tng t),.int .i64 x,.int .i64 c] []).map (fun x=>(x.1,x.2.2))=some (.bool true,andT (andT (andT (andT (andT (andT (andT (andT (andT (andT (andT (andT (andT true (andT true (okT0 N fun i=>coolL (tng t i)))) !largeM N (treeOf fun i=>coolL (tng t i))) (andT true ((okT N fun i=>coolL (tng t i))&&decide (N≤71)))) (andT true (decide (IntKind.i64.min≤x)&&decide (x≤IntKind.i64.max)))) (andT true ((okT N fun i=>coolL (tng t i))&&decide (N≤71)&&goodQ N (treeOf fun i=>coolL (tng t i))==true))) !decide (x<0)) !decide (x≥((N:Nat):Int))) !decide (c<0)) !c != rchL x) (mkQ N (treeOf fun i=>coolL (tng t i)) x c)) (andT true ((okT N fun i=>coolL (tng t i))&&decide (N≤71)&&mkQ N (treeOf fun i=>coolL (tng t i)) x c&&bytT N (treeOf fun i=>coolL (tng t i))))) (andT (decide ((mkL N (treeOf fun i=>coolL (tng t i)) x c).length=32)) (decide ((markW (treeOf fun i=>coolL (tng t i)) x (leftV x+rightV x-c)).length=32)))) (decide (mkL N (treeOf fun i=>coolL (tng t i)) x c=markW (treeOf fun i=>coolL (tng t i)) x (leftV x+rightV x-c)))):=by kernel_rfl
theorem lm_h (N:Nat) (t:Nat→Nod) (x c:Int):(callS Tryz.prog (lmC true [(14,false),(32,false),(38,false),(42,false),(47,true),(51,false),(62,true),(68,true)]) 60 Tryz.f9 [.rol false 99 N (tng t),.int .i64 x,.int .i64 c] []).map (fun x=>(x.1,x.2.2))=some (.bool true,andT (andT (andT (andT (andT (andT (andT (andT (andT (andT (andT (andT (andT (andT true (andT true (okT0 N fun i=>coolL (tng t i)))) !largeM N (treeOf fun i=>coolL (tng t i))) (andT true ((okT N fun i=>coolL (tng t i))&&decide (N≤71)))) (andT true (decide (IntKind.i64.min≤x)&&decide (x≤IntKind.i64.max)))) (andT true ((okT N fun i=>coolL (tng t i))&&decide (N≤71)&&goodQ N (treeOf fun i=>coolL (tng t i))==true))) !decide (x<0)) !decide (x≥((N:Nat):Int))) !decide (c<0)) (c != rchL x)) !c != rchR x) (mkQ N (treeOf fun i=>coolL (tng t i)) x c)) (andT true ((okT N fun i=>coolL (tng t i))&&decide (N≤71)&&mkQ N (treeOf fun i=>coolL (tng t i)) x c&&bytT N (treeOf fun i=>coolL (tng t i))))) (andT (decide ((mkL N (treeOf fun i=>coolL (tng t i)) x c).length=32)) (decide ((markW (treeOf fun i=>coolL (tng t i)) x (leftV x+rightV x-c)).length=32)))) (decide (mkL N (treeOf fun i=>coolL (tng t i)) x c=markW (treeOf fun i=>coolL (tng t i)) x (leftV x+rightV x-c)))):=by kernel_rfl
section
variable {N:Nat} {t:Nat→Nod} {x c:Int}
theorem mkL_len:(mkL N t x c).length=32:=by
 unfold mkL
 cases mkQ N t x c with
 |true=>exact shortW_len _
 |false=>rfl
theorem markMarks0 (hT0:okT0 N (tng t)=true) (ok:∀i,i<N→(t i).OK) (hx:(Lit.int .i64 x).wf=true):FnTr Tryz.prog 9 [.rol false 99 N (tng t),.int .i64 x,.int .i64 c] [] (.bool true) []:=by
 have z1:okT0 N (fun i=>coolL (tng t i))=true:=hT0
 have ht:(treeOf fun i=>coolL (tng t i))=t:=rfl
 cases g1:largeM N t with
 |true=>exact call0 (lmC_ok _ _) 60 Tryz.func9 (lm_a N t x c) (by rw [ht,z1,g1];rfl) rfl
 |false=>
 have hT:=okT0_up hT0 (largeM_un g1)
 have h1:okT N (fun i=>coolL (tng t i))=true:=hT
 have e1:N≤71:=by have:=largeM_le g1;omega
 have d3:decide (N≤71)=true:=decide_eq_true e1
 have hg:checkB N t=goodQ N t:=check_good (t:=t) e1
 have hTOK:TOK N t:=TOK.of hT e1
 have hb:bytT N t=true:=bytT_mk ok
 have hw:(decide (IntKind.i64.min≤x)&&decide (x≤IntKind.i64.max))=true:=hx
 have l1:decide ((mkL N t x c).length=32)=true:=decide_eq_true mkL_len
 have zr:mkQ N t x c=false→mkL N t x c=List.replicate 32 0:=fun q=>by unfold mkL;rw [q];rfl
 cases hc:checkB N t with
 |false=>
  have q:mkQ N t x c=false:=by unfold mkQ dgQ;rw [hc,Bool.and_false];rfl
  refine call0 (lmC_ok false _) 60 Tryz.func9 (lm_b N t x c) ?_ rfl
  rw [ht,z1,g1,h1,d3,hw, ←hg,hc,l1,q,zr q,decide_eq_true rfl];rfl
 |true=>
  by_cases h0:x<0
  ·have q:mkQ N t x c=false:=by unfold mkQ dgQ;rw [decide_eq_false (show ¬0≤x by omega)];rfl
   refine call0 (lmC_ok true _) 60 Tryz.func9 (lm_c N t x c) ?_ rfl
   rw [ht,z1,g1,h1,d3,hw, ←hg,hc,l1,q,zr q,decide_eq_true rfl,decide_eq_true h0];rfl
  have n0:=decide_eq_false h0
  by_cases h2:x≥((N:Nat):Int)
  ·have q:mkQ N t x c=false:=by unfold mkQ dgQ;rw [decide_eq_false (show ¬x<(N:Int) by omega),Bool.and_false];rfl
   refine call0 (lmC_ok true _) 60 Tryz.func9 (lm_d N t x c) ?_ rfl
   rw [ht,z1,g1,h1,d3,hw, ←hg,hc,l1,q,zr q,decide_eq_true rfl,n0,decide_eq_true h2];rfl
  have n2:=decide_eq_false h2
  by_cases h3:c<0
  ·have q:mkQ N t x c=false:=by unfold mkQ;rw [decide_eq_false (show ¬0≤c by omega),Bool.false_and,Bool.and_false]
   refine call0 (lmC_ok true _) 60 Tryz.func9 (lm_e N t x c) ?_ rfl
   rw [ht,z1,g1,h1,d3,hw, ←hg,hc,l1,q,zr q,decide_eq_true rfl,n0,n2,decide_eq_true h3];rfl
  have n3:=decide_eq_false h3
  have hQ:dgQ N t x=true:=by unfold dgQ;rw [hc,decide_eq_true (show 0≤x by omega),decide_eq_true (show x<(N:Int) by omega)];rfl
  have h64:x<64:=by
   obtain ⟨n,hn,_,hN,_⟩:=check_parts hTOK hc
   have:=sizes_le hn
   omega
  obtain ⟨r1,r2⟩:rchL x=leftV x∧rchR x=rightV x:=by
   obtain ⟨y,rfl⟩:=Int.eq_ofNat_of_zero_le (show 0≤x by omega)
   exact rch_of (by omega)
  have l2:decide ((markW t x (leftV x+rightV x-c)).length=32)=true:=decide_eq_true (shortW_len _)
  by_cases h4:c=leftV x
  ·have q:mkQ N t x c=true:=by unfold mkQ;rw [hQ,decide_eq_true (show 0≤c by omega),show (c==leftV x)=true from beq_iff_eq.2 h4];rfl
   have q2:decide (mkL N t x c=markW t x (leftV x+rightV x-c))=true:=decide_eq_true (by unfold mkL;rw [q];rfl)
   refine call0 (lmC_ok true _) 60 Tryz.func9 (lm_g N t x c) ?_ rfl
   rw [ht,z1,g1,h1,d3,hw, ←hg,hc,l1,q,n0,n2,n3,r1,l2,q2,hb,show (c != leftV x)=false by simp [h4]];rfl
  ·have k4:(c != leftV x)=true:=by simp [h4]
   by_cases h5:c=rightV x
   ·have q:mkQ N t x c=true:=by unfold mkQ;rw [hQ,decide_eq_true (show 0≤c by omega),show (c==rightV x)=true from beq_iff_eq.2 h5,Bool.or_true];rfl
    have q2:decide (mkL N t x c=markW t x (leftV x+rightV x-c))=true:=decide_eq_true (by unfold mkL;rw [q];rfl)
    refine call0 (lmC_ok true _) 60 Tryz.func9 (lm_h N t x c) ?_ rfl
    rw [ht,z1,g1,h1,d3,hw, ←hg,hc,l1,q,n0,n2,n3,r1,r2,l2,q2,hb,k4,show (c != rightV x)=false by simp [h5]];rfl
   ·have q:mkQ N t x c=false:=by unfold mkQ;rw [show (c==leftV x)=false from beq_false_of_ne h4,show (c==rightV x)=false from beq_false_of_ne h5,Bool.or_false,Bool.and_false,Bool.and_false]
    refine call0 (lmC_ok true _) 60 Tryz.func9 (lm_f N t x c) ?_ rfl
    rw [ht,z1,g1,h1,d3,hw, ←hg,hc,l1,q,zr q,decide_eq_true rfl,n0,n2,n3,r1,r2,k4,show (c != rightV x)=true by simp [h5]];rfl
theorem markMarks_law {y:Int} (hT0:okT0 N (tng t)=true) (ok:∀i,i<N→(t i).OK) (hx:(Lit.int .i64 x).wf=true) (_:(Lit.int .i64 y).wf=true):FnTr Tryz.prog 9 [.rol false 99 N (tng t),.int .i64 x,.int .i64 y] [] (.bool true) []:=markMarks0 hT0 ok hx
end
end Go.Proofs.YthlnlcijnoadcaaGreatDoor.Mk
end
