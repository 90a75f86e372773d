/- This file holds the texts MkC, MkD, MkE, a section each. No conditions beyond those in the theorems. -/
import Derived.Test.YthlnlcijnoadcaaGreatDoorFMkB
import Derived.Test.YthlnlcijnoadcaaGreatDoorFTtB
import Derived.Test.YthlnlcijnoadcaaGreatDoorFTsN
set_option linter.all false
set_option maxRecDepth 100000
section
namespace Go.Proofs.YthlnlcijnoadcaaGreatDoor.Mk
open Go Go.Sy Tr Wi S2
def dgQ (N:Nat) (t:Nat→Nod) (x:Int):Bool:=decide (0≤x)&&decide (x<N)&&checkB N t
noncomputable def dgL (N:Nat) (t:Nat→Nod) (wo:List Int) (x:Int):List Int:=bif dgQ N t x then digV t wo x else z32
theorem kept_sub {un wo:List Int}:(keptB un wo).Sublist un:=List.filter_sublist
theorem rise_pair {un:List Int} (h:un.Pairwise (· < ·)):riseB un=true:=List.all_eq_true.2 fun i hi=>by
 have hi:=List.mem_range.1 hi
 rw [Bool.not_eq_true']
 by_cases h0:i>0
 ·rw [decide_eq_true h0,Bool.true_and]
  have:=List.pairwise_iff_getElem.1 h (i-1) i (by omega) hi (by omega)
  rw [getD_get hi,getD_get (by omega:i-1<un.length)]
  exact decide_eq_false (by omega)
 ·rw [decide_eq_false h0,Bool.false_and]
theorem pair_of {un:List Int} (h:∀j,j+1<un.length→un.getD j 0<un.getD (j+1) 0):un.Pairwise (· < ·):=by
 have key:∀d i,i+d+1<un.length→un.getD i 0<un.getD (i+d+1) 0:=by
  intro d
  induction d with
  |zero=>intro i hi;exact h i hi
  |succ d ih=>
   intro i hi
   have a:=ih i (by omega)
   have b:=h (i+d+1) (by omega)
   rw [show i+(d+1)+1=i+d+1+1 by omega]
   omega
 refine List.pairwise_iff_getElem.2 fun i j hi hj hij=>?_
 have:=key (j-i-1) i (by omega)
 rw [show i+(j-i-1)+1=j by omega,getD_get hi,getD_get hj] at this
 exact this
section
variable {N n:Nat} {t:Nat→Nod}
theorem good_nod (hT:TOK N t) (hn:n∈sizes) (hN:N=2*n-1) {x:Nat} (hx:x<N) (g:goodJ t n x=true) {un:List Int} (hs:un.Sublist (t x).un):nodB (t x) un=true:=by
 have hz:=sizes_le hn
 have hk:=hT.key x hx
 have hg:=hT.sign x hx
 have hp:=hT.par x hx
 unfold goodJ at g
 have fin:∀(nm:Int),(t x).name=nm→0≤nm→nm≤255→(t x).un.Pairwise (· < ·)→(∀u∈(t x).un,0≤u∧u<32)→(t x).un.length≤32→((t x).used||zeroB (t x).name (t x).key (t x).sign (t x).par un)=true→nodB (t x) un=true:=by
  intro nm h1 h2 h3 h4 h5 h6 h7
  unfold nodB Wi.nodeB
  have a1:unOK un=true:=List.all_eq_true.2 fun u hu=>by
   have:=h5 u (hs.subset hu)
   rw [decide_eq_true this.1,decide_eq_true (show u≤31 by omega)];rfl
  have a2:riseB un=true:=rise_pair (h4.sublist hs)
  have a3:=hs.length_le
  rw [decide_eq_true hk,decide_eq_true hg,decide_eq_true hp,h1,decide_eq_true h2,decide_eq_true h3,a1,a2,decide_eq_true (show un.length≤32 by omega), ←h1,h7];rfl
 cases hu:(t x).used with
 |false=>
  rw [hu] at g
  unfold blankB sameB at g
  simp only [Bool.not_false,_root_.cond_true,Bool.and_eq_true,decide_eq_true_eq,beq_iff_eq] at g
  have hun:=g.2
  have hun':un=[]:=List.sublist_nil.1 (hun▸hs)
  refine fin 0 (by simpa using g.1.1.1.1.2) (by omega) (by omega) (by rw [hun];exact List.Pairwise.nil) (by rw [hun];intro u h;cases h) (by rw [hun];simp) ?_
  rw [hu]
  unfold zeroB
  rw [hun']
  simp [g]
 |true=>
  rw [hu] at g
  cases hq:(x%2==0) with
  |true=>
   rw [hq] at g
   unfold lfB at g
   simp only [Bool.not_true,_root_.cond_false,_root_.cond_true,Bool.and_eq_true,beq_iff_eq,decide_eq_true_eq] at g
   obtain ⟨⟨⟨⟨_,l1⟩,l2⟩,l3⟩,_⟩:=g
   have hun:(t x).un=[]:=List.length_eq_zero_iff.1 (by omega)
   exact fin _ rfl (by omega) l2 (by rw [hun];exact List.Pairwise.nil) (by rw [hun];intro u h;cases h) (by rw [hun];simp) (by rw [hu];rfl)
  |false=>
   rw [hq] at g
   obtain ⟨q1,q2⟩:=upper_un hn (hN▸hx) g
   simp only [Bool.not_true,_root_.cond_false] at g
   unfold upperB at g
   simp only [Bool.and_eq_true,Int.toNat_natCast] at g
   refine fin 0 (by simpa using g.1.1.1) (by omega) (by omega) (pair_of fun j hj=>?_) (fun u h=>by have:=q1 u h;omega) (by omega) (by rw [hu];rfl)
   exact (upJ_at (List.all_eq_true.1 g.2 (j+1) (List.mem_range.2 hj))).1
theorem check_dig (hT:TOK N t) (h:checkB N t=true) {wo:List Int} (hw:wo.length≤274877906944) {x:Int} (h0:0≤x) (h1:x<N):digOK N t wo x 8=true:=by
 obtain ⟨n,hn,_,hN,hg⟩:=check_parts hT h
 obtain ⟨y,rfl⟩:=Int.eq_ofNat_of_zero_le h0
 refine digOK_mk (List.all_eq_true.2 fun i hi=>?_) (check_un hT h).2 hw (by omega) (by have:=lvN_le 7 y;omega)
 have hi:=List.mem_range.1 hi
 rw [good_nod hT hn hN hi (hg i hi) (List.Sublist.refl _),good_nod hT hn hN hi (hg i hi) kept_sub];rfl
end
noncomputable def dtC (b:Bool) (l:List (Nat×Bool)):Ctr:=mk (P:=Tryz.prog) [checkE b,digE 8 (digest_fn 8)] [] (uT l)
theorem dtC_ok (b:Bool) (l:List (Nat×Bool)):CtrSound Tryz.prog (dtC b l):=mk_sound _ InlOK.nil _ _
theorem dt_a (N:Nat) (t:Nat→Nod) (x:Int) (wo:List Int):(callS Tryz.prog (dtC true [(9,true)]) 60 Tryz.f33 [.rol false 99 N (tng t),.int .i64 x,.ro false .i64 wo] []).map (fun x=>(x.1,x.2.2))=some (.tup [.agg [.ints .u8 32 z32],.bool false],andT true (decide (x<0))):=by kernel_rfl
theorem dt_b (N:Nat) (t:Nat→Nod) (x:Int) (wo:List Int):(callS Tryz.prog (dtC true [(9,false),(14,true)]) 60 Tryz.f33 [.rol false 99 N (tng t),.int .i64 x,.ro false .i64 wo] []).map (fun x=>(x.1,x.2.2))=some (.tup [.agg [.ints .u8 32 z32],.bool false],andT (andT true !decide (x<0)) (decide (x≥((N:Nat):Int)))):=by kernel_rfl
theorem dt_c (N:Nat) (t:Nat→Nod) (x:Int) (wo:List Int):(callS Tryz.prog (dtC false [(9,false),(14,false)]) 60 Tryz.f33 [.rol false 99 N (tng t),.int .i64 x,.ro false .i64 wo] []).map (fun x=>(x.1,x.2.2))=some (.tup [.agg [.ints .u8 32 z32],.bool false],andT (andT (andT true !decide (x<0)) !decide (x≥((N:Nat):Int))) (andT true ((okT N fun i=>coolL (tng t i))&&decide (N≤71)&&checkB N (treeOf fun i=>coolL (tng t i))==false))):=by kernel_rfl
theorem dt_d (N:Nat) (t:Nat→Nod) (x:Int) (wo:List Int):(callS Tryz.prog (dtC true [(9,false),(14,false)]) 60 Tryz.f33 [.rol false 99 N (tng t),.int .i64 x,.ro false .i64 wo] []).map (fun x=>(x.1,x.2.2))=some (.tup [.agg [.ints .u8 32 (digV t wo x)],.bool true],andT (andT (andT (andT true !decide (x<0)) !decide (x≥((N:Nat):Int))) (andT true ((okT N fun i=>coolL (tng t i))&&decide (N≤71)&&checkB N (treeOf fun i=>coolL (tng t i))==true))) (andT true ((okT N fun i=>coolL (tng t i))&&decide (N≤71)&&digOK N (treeOf fun i=>coolL (tng t i)) wo x 8))):=by kernel_rfl
section
variable {N:Nat} {t:Nat→Nod} {wo:List Int} {x:Int}
theorem mDigest_fn (hT:TOK N t) (hw:wo.length≤274877906944):FnTr Tryz.prog 33 [.rol false 99 N (tng t),.int .i64 x,.ro false .i64 wo] [] (.tup [.agg [.ints .u8 32 (dgL N t wo x)],.bool (dgQ N t x)]) []:=by
 have hok:okT N (fun i=>coolL (tng t i))=true:=okT_tng hT
 unfold dgL dgQ
 by_cases h0:x<0
 ·rw [decide_eq_false (show ¬0≤x by omega)]
  exact call0 (dtC_ok _ _) 60 Tryz.func33 (dt_a N t x wo) (by rw [decide_eq_true h0];rfl) rfl
 ·by_cases h1:x≥N
  ·rw [decide_eq_false (show ¬x<(N:Int) by omega),Bool.and_false,Bool.false_and]
   exact call0 (dtC_ok _ _) 60 Tryz.func33 (dt_b N t x wo) (by rw [decide_eq_false h0,decide_eq_true h1];rfl) rfl
  ·rw [decide_eq_true (show 0≤x by omega),decide_eq_true (show x<(N:Int) by omega)]
   cases hc:checkB N t with
   |false=>exact call0 (dtC_ok _ _) 60 Tryz.func33 (dt_c N t x wo) (by rw [decide_eq_false h0,decide_eq_false h1,hok,decide_eq_true hT.le,show checkB N (treeOf fun i=>coolL (tng t i))=false from hc];rfl) rfl
   |true=>
    have hr:digOK N (treeOf fun i=>coolL (tng t i)) wo x 8=true:=check_dig (t:=t) hT hc hw (by omega) (by omega)
    exact call0 (dtC_ok _ _) 60 Tryz.func33 (dt_d N t x wo) (by rw [decide_eq_false h0,decide_eq_false h1,hok,decide_eq_true hT.le,show checkB N (treeOf fun i=>coolL (tng t i))=true from hc,hr];rfl) rfl
end
noncomputable def mDigest0E:Entry Tryz.prog:=.val 33 _ Tryz.func33 (by decide) rfl true 0 (fun vs=>match vs with
 | [.rol false 99 N g,.int .i64 x,.nl (.slice none 0 0)]=>some (.tup [.agg [.ints .u8 32 (dgL N (treeOf g) [] x)],.bool (dgQ N (treeOf g) x)],[],okT N g&&decide (N≤71))
 |_=>none) fun vs v new e=>by
 split at e
 ·simp only [Option.some.injEq,Prod.mk.injEq,Bool.and_eq_true,decide_eq_true_eq] at e
  obtain ⟨rfl,rfl,h1,h2⟩:=e
  exact FnTr.conv (mDigest_fn (wo:=[]) (TOK.of h1 h2) (by simp)) ⟨VE.tree h1,VE.refl _,VE.nilRo false .i64,trivial⟩ trivial (VE.refl _) trivial
 ·cases e
noncomputable def mtC (l:List (Nat×Bool)):Ctr:=mk (P:=Tryz.prog) [mDigest0E] [] (uT l)
theorem mtC_ok (l:List (Nat×Bool)):CtrSound Tryz.prog (mtC l):=mk_sound _ InlOK.nil _ _
theorem mt_a (N:Nat) (t:Nat→Nod):(callS Tryz.prog (mtC []) 60 Tryz.f34 [.rol false 99 N (tng t)] []).map (fun x=>(x.1,x.2.2))=some (.tup [.agg [.ints .u8 32 (dgL N t [] (IntKind.i64.wrap ((N:Int).tdiv 2)))],.bool (dgQ N t (IntKind.i64.wrap ((N:Int).tdiv 2)))],andT true (andT true ((okT N fun i=>coolL (tng t i))&&decide (N≤71)))):=by kernel_rfl
theorem halfN {N:Nat} (h:N≤71):IntKind.i64.wrap ((N:Int).tdiv 2)=((N/2:Nat):Int):=by
 have q:((List.range 72).all fun x=>IntKind.i64.wrap ((x:Int).tdiv 2)==((x/2:Nat):Int))=true:=by decide+kernel
 exact eq_of_beq (List.all_eq_true.1 q N (List.mem_range.2 (by omega)))
theorem mTree_fn {N:Nat} {t:Nat→Nod} (hT:TOK N t):FnTr Tryz.prog 34 [.rol false 99 N (tng t)] [] (.tup [.agg [.ints .u8 32 (dgL N t [] ((N/2:Nat):Int))],.bool (dgQ N t ((N/2:Nat):Int))]) []:=by
 have hok:okT N (fun i=>coolL (tng t i))=true:=okT_tng hT
 have e:=mt_a N t
 rw [halfN hT.le] at e
 exact call0 (mtC_ok _) 60 Tryz.func34 e (by rw [hok,decide_eq_true hT.le];rfl) rfl
noncomputable def mTreeE:Entry Tryz.prog:=.val 34 _ Tryz.func34 (by decide) rfl true 0 (fun vs=>match vs with
 | [.rol false 99 N g]=>some (.tup [.agg [.ints .u8 32 (dgL N (treeOf g) [] ((N/2:Nat):Int))],.bool (dgQ N (treeOf g) ((N/2:Nat):Int))],[],okT N g&&decide (N≤71))
 |_=>none) fun vs v new e=>by
 split at e
 ·simp only [Option.some.injEq,Prod.mk.injEq,Bool.and_eq_true,decide_eq_true_eq] at e
  obtain ⟨rfl,rfl,h1,h2⟩:=e
  exact FnTr.conv (mTree_fn (TOK.of h1 h2)) ⟨VE.tree h1,trivial⟩ trivial (VE.refl _) trivial
 ·cases e
end Go.Proofs.YthlnlcijnoadcaaGreatDoor.Mk
end
section
namespace Go.Proofs.YthlnlcijnoadcaaGreatDoor.Mk
open Go Go.Sy Tr Wi S2
noncomputable def rnC (l:List (Nat×Bool)):Ctr:=mk (P:=Tryz.prog) [] [] (uT l)
theorem rnC_ok (l:List (Nat×Bool)):CtrSound Tryz.prog (rnC l):=mk_sound _ InlOK.nil _ _
noncomputable def rnB:Code:=bodyOf Tryz.f126
abbrev rnP (c nm:Int) (k s p un:List Int):List Int:=([c,IntKind.u8.wrap nm]++k++s++p)++[IntKind.u8.wrap (un.length:Int)]
def refN (u:Bool) (nm:Int) (k s p un:List Int):List Int:=rnP (bif u then 1 else 0) nm k s p un++un.map IntKind.u8.wrap
noncomputable def rnS (u:Bool) (nm:Int) (k s p un:List Int) (n:Nat) (xs:List Int) (i:Int):St:=⟨slotsOf 47 [(1,.ptr 0 0 0),(3,.sl 1 0 0 1 n n false true),(4,.int .i64 i)],[.b [.bool u,.int .i64 nm,.ints .u8 32 k,.ints .u8 32 s,.ints .u8 32 p,.ro false .i64 un],.b [.ints .u8 n xs]],true⟩
theorem rn_h1 (u:Bool) (nm:Int) (k s p un:List Int):resX (cutR [1,3,4] 2 ((execL Tryz.prog (rnC [(10,true),(16,true),(19,true),(22,true)]) 60 0 7 (atoms rnB) ⟨slots0 Tryz.f126.ntmps [nod u nm k s p un],[],true⟩).map fun s=>(Exit.normal,s)))=some (.normal,(rnS u nm k s p un 99 (rnP 1 nm k s p un) 0).t,(rnS u nm k s p un 99 (rnP 1 nm k s p un) 0).h):=by kernel_rfl
theorem rn_h1' (u:Bool) (nm:Int) (k s p un:List Int):obX (cutR [1,3,4] 2 ((execL Tryz.prog (rnC [(10,true),(16,true),(19,true),(22,true)]) 60 0 7 (atoms rnB) ⟨slots0 Tryz.f126.ntmps [nod u nm k s p un],[],true⟩).map fun s=>(Exit.normal,s)))=(andT (andT (andT (andT (andT (andT true u) (true&&decide ((((List.replicate 2 0).set 0 0).set (0+1+0) (IntKind.u8.wrap nm)).length=2))) (andT (andT (decide (k.length=32)&&true) (decide (((((List.replicate 2 0).set 0 0).set (0+1+0) (IntKind.u8.wrap nm)).set (0+Int.toNat 0) 1).length=2)&&true)) (decide (((((List.replicate 2 0).set 0 0).set (0+1+0) (IntKind.u8.wrap nm)).set (0+Int.toNat 0) 1).length=2)))) (andT (andT (decide (s.length=32)&&true) (decide (((((List.replicate 2 0).set 0 0).set (0+1+0) (IntKind.u8.wrap nm)).set (0+Int.toNat 0) 1++k).length=2+32)&&true)) (decide (((((List.replicate 2 0).set 0 0).set (0+1+0) (IntKind.u8.wrap nm)).set (0+Int.toNat 0) 1++k).length=2+32)))) (andT (andT (decide (p.length=32)&&true) (decide (((((List.replicate 2 0).set 0 0).set (0+1+0) (IntKind.u8.wrap nm)).set (0+Int.toNat 0) 1++k++s).length=(2+32)+32)&&true)) (decide (((((List.replicate 2 0).set 0 0).set (0+1+0) (IntKind.u8.wrap nm)).set (0+Int.toNat 0) 1++k++s).length=(2+32)+32)))) (andT (andT (andT (decide (((List.replicate 1 0).set 0 (IntKind.u8.wrap ((un.length:Nat):Int))).length=1)&&true) (decide (((((List.replicate 2 0).set 0 0).set (0+1+0) (IntKind.u8.wrap nm)).set (0+Int.toNat 0) 1++k++s++p).length=((2+32)+32)+32)&&true)) (decide (((((List.replicate 2 0).set 0 0).set (0+1+0) (IntKind.u8.wrap nm)).set (0+Int.toNat 0) 1++k++s++p).length=((2+32)+32)+32))) true)):=by kernel_rfl
theorem rn_h0 (u:Bool) (nm:Int) (k s p un:List Int):resX (cutR [1,3,4] 2 ((execL Tryz.prog (rnC [(10,false),(16,true),(19,true),(22,true)]) 60 0 7 (atoms rnB) ⟨slots0 Tryz.f126.ntmps [nod u nm k s p un],[],true⟩).map fun s=>(Exit.normal,s)))=some (.normal,(rnS u nm k s p un 99 (rnP 0 nm k s p un) 0).t,(rnS u nm k s p un 99 (rnP 0 nm k s p un) 0).h):=by kernel_rfl
theorem rn_h0' (u:Bool) (nm:Int) (k s p un:List Int):obX (cutR [1,3,4] 2 ((execL Tryz.prog (rnC [(10,false),(16,true),(19,true),(22,true)]) 60 0 7 (atoms rnB) ⟨slots0 Tryz.f126.ntmps [nod u nm k s p un],[],true⟩).map fun s=>(Exit.normal,s)))=(andT (andT (andT (andT (andT true !u) (andT (andT (decide (k.length=32)&&true) (decide ((((List.replicate 2 0).set 0 0).set (0+1+0) (IntKind.u8.wrap nm)).length=2)&&true)) (decide ((((List.replicate 2 0).set 0 0).set (0+1+0) (IntKind.u8.wrap nm)).length=2)))) (andT (andT (decide (s.length=32)&&true) (decide ((((List.replicate 2 0).set 0 0).set (0+1+0) (IntKind.u8.wrap nm)++k).length=2+32)&&true)) (decide ((((List.replicate 2 0).set 0 0).set (0+1+0) (IntKind.u8.wrap nm)++k).length=2+32)))) (andT (andT (decide (p.length=32)&&true) (decide ((((List.replicate 2 0).set 0 0).set (0+1+0) (IntKind.u8.wrap nm)++k++s).length=(2+32)+32)&&true)) (decide ((((List.replicate 2 0).set 0 0).set (0+1+0) (IntKind.u8.wrap nm)++k++s).length=(2+32)+32)))) (andT (andT (andT (decide (((List.replicate 1 0).set 0 (IntKind.u8.wrap ((un.length:Nat):Int))).length=1)&&true) (decide ((((List.replicate 2 0).set 0 0).set (0+1+0) (IntKind.u8.wrap nm)++k++s++p).length=((2+32)+32)+32)&&true)) (decide ((((List.replicate 2 0).set 0 0).set (0+1+0) (IntKind.u8.wrap nm)++k++s++p).length=((2+32)+32)+32))) true)):=by kernel_rfl
theorem rn_one (u:Bool) (nm:Int) (k s p un:List Int) (n:Nat) (xs:List Int) (i:Int):resX (cutR [1,3,4] 2 (exec Tryz.prog (rnC [(34,true)]) 60 0 (inner (inner (nthC 7 rnB))) (rnS u nm k s p un n xs i)))=some (.normal,(rnS u nm k s p un (n+1) (xs++[IntKind.u8.wrap (un.getD i.toNat 0)]) (IntKind.i64.wrap (i+1))).t,(rnS u nm k s p un (n+1) (xs++[IntKind.u8.wrap (un.getD i.toNat 0)]) (IntKind.i64.wrap (i+1))).h):=by kernel_rfl
theorem rn_one' (u:Bool) (nm:Int) (k s p un:List Int) (n:Nat) (xs:List Int) (i:Int):obX (cutR [1,3,4] 2 (exec Tryz.prog (rnC [(34,true)]) 60 0 (inner (inner (nthC 7 rnB))) (rnS u nm k s p un n xs i)))=(andT (andT (andT (andT true (decide (i<((un.length:Nat):Int)))) (inB i un.length)) (decide (i.toNat<un.length))) (andT (andT (andT (andT (decide (((List.replicate 1 0).set 0 (IntKind.u8.wrap (un.getD i.toNat 0))).length=1)&&true) (decide (xs.length=n)&&(decide (n≤n)&&true))) (decide (xs.length=n))) true) (decide (n+1≤2^38)))):=by kernel_rfl
theorem rn_end (u:Bool) (nm:Int) (k s p un:List Int) (n:Nat) (xs:List Int) (i:Int):resX (cutR [3] 2 (exec Tryz.prog (rnC [(34,false)]) 60 0 (inner (inner (nthC 7 rnB))) (rnS u nm k s p un n xs i)))=some (.exit 0,slotsOf 47 [(3,.sl 1 0 0 1 n n false true)],(rnS u nm k s p un n xs i).h):=by kernel_rfl
theorem rn_end' (u:Bool) (nm:Int) (k s p un:List Int) (n:Nat) (xs:List Int) (i:Int):obX (cutR [3] 2 (exec Tryz.prog (rnC [(34,false)]) 60 0 (inner (inner (nthC 7 rnB))) (rnS u nm k s p un n xs i)))=(andT true !decide (i<((un.length:Nat):Int))):=by kernel_rfl
theorem rn_fin (u:Bool) (nm:Int) (k s p un:List Int) (n:Nat) (xs:List Int) (i:Int):resX (cutR [2] 2 (execA Tryz.prog (rnC []) 60 0 ((atoms rnB).drop 8) ⟨slotsOf 47 [(3,.sl 1 0 0 1 n n false true)],(rnS u nm k s p un n xs i).h,true⟩))=some (.ret,slotsOf 47 [(2,.sl 1 0 0 1 n n false true)],(rnS u nm k s p un n xs i).h):=by kernel_rfl
theorem rn_fin' (u:Bool) (nm:Int) (k s p un:List Int) (n:Nat) (xs:List Int) (i:Int):obX (cutR [2] 2 (execA Tryz.prog (rnC []) 60 0 ((atoms rnB).drop 8) ⟨slotsOf 47 [(3,.sl 1 0 0 1 n n false true)],(rnS u nm k s p un n xs i).h,true⟩))=(true):=by kernel_rfl
section
variable {u:Bool} {nm:Int} {k s p un:List Int}
theorem take_map {f:Int→Int} {l:List Int} {i:Nat} (h:i<l.length):(l.take i).map f++[f (l.getD i 0)]=(l.take (i+1)).map f:=by
 rw [List.take_add_one,List.getElem?_eq_getElem h,List.map_append,getD_get h];rfl
theorem refNode_fn (hk:k.length=32) (hs:s.length=32) (hp:p.length=32) (hu:un.length≤100):FnTr Tryz.prog 126 [nod u nm k s p un] [] (.ro true .u8 (refN u nm k s p un)) []:=by
 have hlen:(refN u nm k s p un).length=99+un.length:=by unfold refN;simp [hk,hs,hp];omega
 refine FnTr.frozenI (ex:=false) (wh:=true) (N:=(refN u nm k s p un).length) (FnTr.sel (v:=.sl 1 0 0 1 (99+un.length) (99+un.length) false true) (h1:=(rnS u nm k s p un (99+un.length) (refN u nm k s p un) 0).h) [1] ?_ (by rw [hlen];rfl)) rfl
 have hP:∀c,(rnP c nm k s p un).length=99:=fun c=>by simp [hk,hs,hp]
 have core:TrL Tryz.prog none 0 ((atoms rnB).drop 7) (rnS u nm k s p un 99 (rnP (bif u then 1 else 0) nm k s p un) 0) .ret ⟨slotsOf 47 [(2,.sl 1 0 0 1 (99+un.length) (99+un.length) false true)],(rnS u nm k s p un (99+un.length) (refN u nm k s p un) 0).h,true⟩:=by
  generalize hc:rnP (bif u then 1 else 0) nm k s p un=base
  have hb:base.length=99:=hc▸hP _
  have hR:refN u nm k s p un=base++un.map IntKind.u8.wrap:=by unfold refN;rw [hc]
  rw [hR]
  have key:Tr Tryz.prog none 0 (nthC 7 rnB) (rnS u nm k s p un (99+0) (base++(un.take 0).map IntKind.u8.wrap) ((0:Nat):Int)) .normal ⟨slotsOf 47 [(3,.sl 1 0 0 1 (99+un.length) (99+un.length) false true)],(rnS u nm k s p un (99+un.length) (base++un.map IntKind.u8.wrap) 0).h,true⟩:=by
   refine Tr.loop 0 (by kernel_rfl) (fun j=>rnS u nm k s p un (99+j) (base++(un.take j).map IntKind.u8.wrap) ((j:Nat):Int)) un.length (fun j hj=>?_) ?_
   ·have e:=rn_one u nm k s p un (99+j) (base++(un.take j).map IntKind.u8.wrap) j
    rw [Int.toNat_natCast,wrapS (by omega),List.append_assoc,take_map hj,Nat.add_assoc] at e
    refine Tr.cutX (rnC_ok [(34,true)]) 60 _ 2 (Nat.zero_le _) (s':=rnS u nm k s p un (99+(j+1)) (base++(un.take (j+1)).map IntKind.u8.wrap) ((j+1:Nat):Int)) _ e (rn_one' u nm k s p un _ _ _) ?_
    rw [ltN hj,inBN hj,Int.toNat_natCast]
    simp [andT_iff,hj,hb,Nat.min_eq_left (Nat.le_of_lt hj)]
    omega
   ·have e:=rn_end u nm k s p un (99+un.length) (base++(un.take un.length).map IntKind.u8.wrap) un.length
    rw [List.take_length] at e ⊢
    exact Tr.cutX (rnC_ok [(34,false)]) 60 _ 2 (Nat.zero_le _) _ e (rn_end' u nm k s p un _ _ _) (by rw [nltN (Nat.le_refl _)];rfl)
  rw [List.take_zero,List.map_nil,List.append_nil] at key
  exact TrL.item 7 (by decide) key (TrL.cutA (rnC_ok []) 60 _ 2 (Nat.zero_le _) _ (rn_fin u nm k s p un (99+un.length) (base++un.map IntKind.u8.wrap) 0) (rn_fin' u nm k s p un _ _ _) rfl (by intro q;have:=congrArg List.length q;revert this;decide))
 refine FnTr.mk (vs:=[.sl 1 0 0 1 (99+un.length) (99+un.length) false true]) Tryz.func126 rfl (x:=.ret) (s:=⟨slotsOf 47 [(2,.sl 1 0 0 1 (99+un.length) (99+un.length) false true)],(rnS u nm k s p un (99+un.length) (refN u nm k s p un) 0).h,true⟩) ?_ (.inl rfl) (by kernel_rfl)
 cases u with
 |true=>exact TrL.itemsX (rnC_ok [(10,true),(16,true),(19,true),(22,true)]) 60 7 _ 2 (Nat.zero_le _) _ (rn_h1 true nm k s p un) (rn_h1' true nm k s p un) (by simp [andT_iff,hk,hs,hp]) (by decide) rfl core
 |false=>exact TrL.itemsX (rnC_ok [(10,false),(16,true),(19,true),(22,true)]) 60 7 _ 2 (Nat.zero_le _) _ (rn_h0 false nm k s p un) (rn_h0' false nm k s p un) (by simp [andT_iff,hk,hs,hp]) (by decide) rfl core
end
noncomputable def refNodeE:Entry Tryz.prog:=.val 126 _ Tryz.func126 (by decide) rfl true 0 (fun vs=>match vs with
 | [.agg [.bool u,.int .i64 nm,.ints .u8 32 k,.ints .u8 32 s,.ints .u8 32 p,.ro false .i64 un]]=>some (.ro true .u8 (refN u nm k s p un),[],decide (k.length=32)&&decide (s.length=32)&&decide (p.length=32)&&decide (un.length≤100))
 |_=>none) fun vs v new e=>by
 split at e
 ·simp only [Option.some.injEq,Prod.mk.injEq,Bool.and_eq_true,decide_eq_true_eq] at e
  obtain ⟨rfl,rfl,⟨⟨h1,h2⟩,h3⟩,h4⟩:=e
  exact refNode_fn h1 h2 h3 h4
 ·cases e
end Go.Proofs.YthlnlcijnoadcaaGreatDoor.Mk
end
section
namespace Go.Sy
open Go
section
variable {k:Nat}
theorem Ent.nilBlk {t:List (Option SV)} {h:List Blk} {o o':Bool} (i:Nat) (hi:t[i]? =some (some (.nl (.slice none 0 0)))) (K:IntKind) (ex wh:Bool):Ent k ⟨t,h,o⟩ ⟨t.set i (some (.sl h.length 0 0 1 0 0 ex wh)),h++[.b [.ints K 0 []]],o'⟩:=
 fun B e w t' _ hl R=>⟨e,rfl,⟨by simpa using hl.1,fun j v v' a c=>by
  by_cases hij:i=j
  ·subst hij
   rw [List.getElem?_set_self (List.getElem?_eq_some_iff.1 hi).1] at a
   simp only [Option.some.injEq] at a
   subst a
   have h1:v'= .slice none 0 0:=hl.2 i _ v' hi c
   exact .inl ⟨rfl,rfl,none,h1⟩
  ·rw [List.getElem?_set_ne hij] at a
   exact hl.2 j v v' a c⟩,by
  have:=R.nothing (j:=h.length) (ps:=[.ints K 0 []]) (.inl rfl) rfl
  unfold placeH at this
  rw [if_pos rfl] at this
  exact this⟩
end
end Go.Sy
namespace Go.Proofs.YthlnlcijnoadcaaGreatDoor.Mk
open Go Go.Sy Tr Wi S2
open Q2 (shortQ shortDRE By)
theorem refNode0_fn {u:Bool} {nm:Int} {k s p:List Int} (hk:k.length=32) (hs:s.length=32) (hp:p.length=32):FnTr Tryz.prog 126 [.agg [.bool u,.int .i64 nm,.ints .u8 32 k,.ints .u8 32 s,.ints .u8 32 p,.nl (.slice none 0 0)]] [] (.ro true .u8 (refN u nm k s p [])) []:=
 FnTr.conv (refNode_fn hk hs hp (by simp)) ⟨VE.agg (PE.last (ps:=[.bool u,.int .i64 nm,.ints .u8 32 k,.ints .u8 32 s,.ints .u8 32 p]) rfl rfl (VE.nilRo false .i64)),trivial⟩ trivial (VE.refl _) trivial
noncomputable def refNode0E:Entry Tryz.prog:=.val 126 _ Tryz.func126 (by decide) rfl true 0 (fun vs=>match vs with
 | [.agg [.bool u,.int .i64 nm,.ints .u8 32 k,.ints .u8 32 s,.ints .u8 32 p,.nl (.slice none 0 0)]]=>some (.ro true .u8 (refN u nm k s p []),[],decide (k.length=32)&&decide (s.length=32)&&decide (p.length=32))
 |_=>none) fun vs v new e=>by
 split at e
 ·simp only [Option.some.injEq,Prod.mk.injEq,Bool.and_eq_true,decide_eq_true_eq] at e
  obtain ⟨rfl,rfl,⟨h1,h2⟩,h3⟩:=e
  exact refNode0_fn h1 h2 h3
 ·cases e
def refNd (n:Nod) (un:List Int):List Int:=refN n.used n.name n.key n.sign n.par un
def rkept (un wo:List Int):List Int:=un.filter fun u=>!inQ u wo
noncomputable def rtxL (t:Nat→Nod) (wo:List Int):Nat→Nat→List Int
 |0,x=>[1,((x/2:Nat):Int)]++bif inQ ((x/2:Nat):Int) wo then refN false 0 z32 z32 z32 [] else refNd (t x) (t x).un
 |k+1,x=>(([2]++refNd (t x) (rkept (t x).un wo))++shortQ (rtxL t wo k (x-2^k)))++shortQ (rtxL t wo k (x+2^k))
noncomputable def rtxV (t:Nat→Nod) (wo:List Int) (x:Int):List Int:=rtxL t wo (lvN 7 x.toNat) x.toNat
def rtOK (N:Nat) (t:Nat→Nod) (wo:List Int) (x:Int) (k:Nat):Bool:=((List.range N).all fun i=>decide ((t i).un.length≤100))&&treeN N&&decide (0≤x)&&decide (x<N)&&decide (lvN 7 x.toNat<k)&&decide (wo.length≤274877906944)
def TxtFn (k:Nat):Prop:=∀(N:Nat) (t:Nat→Nod) (wo:List Int) (x:Int),TOK N t→rtOK N t wo x k=true→
 FnTr Tryz.prog 80 [.rol false 99 N (tng t),.int .i64 x,.ro false .i64 wo] [] (.ro true .u8 (rtxV t wo x)) []
noncomputable def txtE (k:Nat) (ih:TxtFn k):Entry Tryz.prog:=.val 80 _ Tryz.func80 (by decide) rfl true 0 (fun vs=>match vs with
 | [.rol false 99 N g,.int .i64 x,.ro false .i64 wo]=>some (.ro true .u8 (rtxV (treeOf g) wo x),[],okT N g&&decide (N≤71)&&rtOK N (treeOf g) wo x k)
 |_=>none) fun vs v new e=>by
 split at e
 ·simp only [Option.some.injEq,Prod.mk.injEq,Bool.and_eq_true,decide_eq_true_eq] at e
  obtain ⟨rfl,rfl,⟨h1,h2⟩,h3⟩:=e
  exact FnTr.conv (ih _ _ _ _ (TOK.of h1 h2) h3) ⟨VE.tree h1,VE.refl _,VE.refl _,trivial⟩ trivial (VE.refl _) trivial
 ·cases e
noncomputable def rdC (k:Nat) (ih:TxtFn k) (l:List (Nat×Bool)):Ctr:=mk (P:=Tryz.prog) [txtE k ih,shortDRE] [] (uT l)
theorem rdC_ok (k:Nat) (ih:TxtFn k) (l:List (Nat×Bool)):CtrSound Tryz.prog (rdC k ih l):=mk_sound _ InlOK.nil _ _
theorem rd_a (N:Nat) (t:Nat→Nod) (x:Int) (wo:List Int) (k:Nat) (ih:TxtFn k):(callS Tryz.prog (rdC k ih []) 60 Tryz.f36 [.rol false 99 N (tng t),.int .i64 x,.ro false .i64 wo] []).map (fun x=>(x.1,x.2.2))=some (.agg [.ints .u8 32 (shortQ (rtxV t wo x))],andT (andT true (andT true ((okT N fun i=>coolL (tng t i))&&decide (N≤71)&&rtOK N (treeOf fun i=>coolL (tng t i)) wo x k))) (andT true (decide ((rtxV (treeOf fun i=>coolL (tng t i)) wo x).length<274877900000)))):=by kernel_rfl
theorem shortQ_len (xs:List Int):(shortQ xs).length=32:=by unfold shortQ;rw [Lock_eq];simp [outB]
theorem rtxL_len {N:Nat} {t:Nat→Nod} (hT:TOK N t) (hu:((List.range N).all fun i=>decide ((t i).un.length≤100))=true) (wo:List Int) (k x:Nat) (hx:x<N):(rtxL t wo k x).length≤300:=by
 have h1:=of_decide_eq_true (List.all_eq_true.1 hu x (List.mem_range.2 hx))
 have hq:∀l,(shortQ l).length=32:=shortQ_len
 have hr:∀un:List Int,un.length≤100→(refNd (t x) un).length≤199:=fun un h=>by
  unfold refNd refN;simp [hT.key x hx,hT.sign x hx,hT.par x hx];omega
 cases k with
 |zero=>
  unfold rtxL
  cases inQ ((x/2:Nat):Int) wo with
  |true=>simp [refN]
  |false=>have:=hr _ h1;simp;omega
 |succ k=>
  unfold rtxL
  have:=hr (rkept (t x).un wo) (Nat.le_trans (List.length_filter_le _ _) h1)
  simp [hq];omega
theorem rdg_fn {k:Nat} (ih:TxtFn k) {N:Nat} {t:Nat→Nod} {wo:List Int} {x:Int} (hT:TOK N t) (h:rtOK N t wo x k=true):
  FnTr Tryz.prog 36 [.rol false 99 N (tng t),.int .i64 x,.ro false .i64 wo] [] (.agg [.ints .u8 32 (shortQ (rtxV t wo x))]) []:=by
 have hok:okT N (fun i=>coolL (tng t i))=true:=okT_tng hT
 have hr:rtOK N (treeOf fun i=>coolL (tng t i)) wo x k=true:=h
 have hl:(rtxV (treeOf fun i=>coolL (tng t i)) wo x).length<274877900000:=by
  unfold rtOK at h
  simp only [Bool.and_eq_true,decide_eq_true_eq] at h
  obtain ⟨⟨⟨⟨⟨hu,ht⟩,h0⟩,hx⟩,_⟩,_⟩:=h
  obtain ⟨n,hn,hN⟩:=treeN_iff ht
  have:=rtxL_len hT hu wo (lvN 7 x.toNat) x.toNat (by omega)
  show (rtxL t wo (lvN 7 x.toNat) x.toNat).length<_
  omega
 exact call0 (rdC_ok k ih []) 60 Tryz.func36 (rd_a N t x wo k ih) (by rw [hok,decide_eq_true hT.le,hr,decide_eq_true hl];rfl) rfl
noncomputable def rdgE (k:Nat) (ih:TxtFn k):Entry Tryz.prog:=.val 36 _ Tryz.func36 (by decide) rfl true 0 (fun vs=>match vs with
 | [.rol false 99 N g,.int .i64 x,.ro false .i64 wo]=>some (.agg [.ints .u8 32 (shortQ (rtxV (treeOf g) wo x))],[],okT N g&&decide (N≤71)&&rtOK N (treeOf g) wo x k)
 |_=>none) fun vs v new e=>by
 split at e
 ·simp only [Option.some.injEq,Prod.mk.injEq,Bool.and_eq_true,decide_eq_true_eq] at e
  obtain ⟨rfl,rfl,⟨h1,h2⟩,h3⟩:=e
  exact FnTr.conv (rdg_fn ih (TOK.of h1 h2) h3) ⟨VE.tree h1,VE.refl _,VE.refl _,trivial⟩ trivial (VE.refl _) trivial
 ·cases e
noncomputable def rtC0 (l:List (Nat×Bool)):Ctr:=mk (P:=Tryz.prog) [rInE,refNode0E] [] (uT l)
theorem rtC0_ok (l:List (Nat×Bool)):CtrSound Tryz.prog (rtC0 l):=mk_sound _ InlOK.nil _ _
noncomputable def rtC1 (l:List (Nat×Bool)):Ctr:=mk (P:=Tryz.prog) [rInE,refNodeE] [] (uT l)
theorem rtC1_ok (l:List (Nat×Bool)):CtrSound Tryz.prog (rtC1 l):=mk_sound _ InlOK.nil _ _
noncomputable def rtC2 (k:Nat) (ih:TxtFn k) (l:List (Nat×Bool)):Ctr:=mk (P:=Tryz.prog) [rChildrenE,rdgE k ih,refNodeE] [] (uT l)
theorem rtC2_ok (k:Nat) (ih:TxtFn k) (l:List (Nat×Bool)):CtrSound Tryz.prog (rtC2 k ih l):=mk_sound _ InlOK.nil _ _
noncomputable def rtB:Code:=bodyOf Tryz.f80
abbrev rtN (n:Nod) (v:SV):List Blk:=[.b [.bool n.used,.int .i64 n.name,.ints .u8 32 n.key,.ints .u8 32 n.sign,.ints .u8 32 n.par,v]]
noncomputable def rtT (N:Nat) (t:Nat→Nod) (x:Int) (wo:List Int) (v:SV) (i:Int):List (Option SV):=slotsOf 81 [(0,.rol false 99 N (tng t)),(1,.int .i64 x),(2,.ro false .i64 wo),(7,.ptr 0 0 0),(8,v),(9,.int .i64 i)]
abbrev rtV (m:Nat):SV:=.sl 1 0 0 1 m m false true
noncomputable def rtS (N:Nat) (t:Nat→Nod) (x:Int) (wo:List Int) (n:Nod) (m:Nat) (ys:List Int) (i:Int):St:=⟨rtT N t x wo (rtV m) i,rtN n (.ro false .i64 n.un)++[.b [.ints .i64 m ys]],true⟩
noncomputable def rtU (N:Nat) (t:Nat→Nod) (x:Int) (wo:List Int):List (Option SV):=slotsOf 81 [(0,.rol false 99 N (tng t)),(1,.int .i64 x),(2,.ro false .i64 wo),(7,.ptr 0 0 0)]
theorem rt_0 (N:Nat) (t:Nat→Nod) (x:Int) (wo:List Int):(callS Tryz.prog (rtC0 [(21,true),(25,true)]) 60 Tryz.f80 [.rol false 99 N (tng t),.int .i64 x,.ro false .i64 wo] [])=some (.sl 1 0 0 1 101 101 false true,rtN ⟨false,0,z32,z32,z32,[]⟩ (.nl (.slice none 0 0))++[.b [.ints .u8 101 ([1,IntKind.u8.wrap (IntKind.i64.wrap (x.tdiv 2))]++refN false 0 z32 z32 z32 [])]],andT (andT (andT (andT (andT (andT true (inB x N)) (true&&(decide (x.toNat<N)&&true))) (x.tmod 2==0)) (andT true (decide (wo.length≤274877906944)))) (inQ (IntKind.i64.wrap (x.tdiv 2)) wo)) (andT (andT (andT true (decide ((((List.replicate 2 0).set 0 1).set (0+1+0) (IntKind.u8.wrap (IntKind.i64.wrap (x.tdiv 2)))).length=2)&&true)) (decide ((((List.replicate 2 0).set 0 1).set (0+1+0) (IntKind.u8.wrap (IntKind.i64.wrap (x.tdiv 2)))).length=2))) ((0+1).beq 1))):=by kernel_rfl
theorem rt_1 (N:Nat) (t:Nat→Nod) (x:Int) (wo:List Int):(callS Tryz.prog (rtC1 [(21,true),(25,false)]) 60 Tryz.f80 [.rol false 99 N (tng t),.int .i64 x,.ro false .i64 wo] [])=some (.sl 1 0 0 1 (2+(refNd (t x.toNat) (t x.toNat).un).length) (2+(refNd (t x.toNat) (t x.toNat).un).length) false true,rtN (t x.toNat) (.ro false .i64 (t x.toNat).un)++[.b [.ints .u8 (2+(refNd (t x.toNat) (t x.toNat).un).length) ([1,IntKind.u8.wrap (IntKind.i64.wrap (x.tdiv 2))]++refNd (t x.toNat) (t x.toNat).un)]],andT (andT (andT (andT (andT (andT (andT true (inB x N)) (true&&(decide (x.toNat<N)&&true))) (x.tmod 2==0)) (andT true (decide (wo.length≤274877906944)))) !inQ (IntKind.i64.wrap (x.tdiv 2)) wo) (andT true (decide ((t x.toNat).key.length=32)&&decide ((t x.toNat).sign.length=32)&&decide ((t x.toNat).par.length=32)&&decide ((t x.toNat).un.length≤100)))) (andT (andT (andT (andT true (decide ((((List.replicate 2 0).set 0 1).set (0+1+0) (IntKind.u8.wrap (IntKind.i64.wrap (x.tdiv 2)))).length=2)&&true)) (decide ((((List.replicate 2 0).set 0 1).set (0+1+0) (IntKind.u8.wrap (IntKind.i64.wrap (x.tdiv 2)))).length=2))) ((0+1).beq 1)) (decide (2+(refN (t x.toNat).used (t x.toNat).name (t x.toNat).key (t x.toNat).sign (t x.toNat).par (t x.toNat).un).length≤2^38)))):=by kernel_rfl
theorem rt_h (N:Nat) (t:Nat→Nod) (x:Int) (wo:List Int):resX (cutR [0,1,2,7,8,9] 1 ((execL Tryz.prog (rtC1 [(21,false)]) 60 0 6 (atoms rtB) ⟨slots0 Tryz.f80.ntmps [.rol false 99 N (tng t),.int .i64 x,.ro false .i64 wo],[],true⟩).map fun s=>(Exit.normal,s)))=some (.normal,rtT N t x wo (.nl (.slice none 0 0)) 0,rtN (t x.toNat) (.ro false .i64 (t x.toNat).un)):=by kernel_rfl
theorem rt_h' (N:Nat) (t:Nat→Nod) (x:Int) (wo:List Int):obX (cutR [0,1,2,7,8,9] 1 ((execL Tryz.prog (rtC1 [(21,false)]) 60 0 6 (atoms rtB) ⟨slots0 Tryz.f80.ntmps [.rol false 99 N (tng t),.int .i64 x,.ro false .i64 wo],[],true⟩).map fun s=>(Exit.normal,s)))=(andT (andT (andT true (inB x N)) (true&&(decide (x.toNat<N)&&true))) !x.tmod 2==0):=by kernel_rfl
theorem rt_go (N:Nat) (t:Nat→Nod) (x:Int) (wo:List Int) (n:Nod) (m:Nat) (ys:List Int) (i:Int):resX (cutR [0,1,2,7,8,9] 2 (exec Tryz.prog (rtC1 [(38,true),(48,true)]) 60 0 (inner (inner (nthC 6 rtB))) (rtS N t x wo n m ys i)))=some (.normal,(rtS N t x wo n (m+1) (ys++[n.un.getD i.toNat 0]) (IntKind.i64.wrap (i+1))).t,(rtS N t x wo n (m+1) (ys++[n.un.getD i.toNat 0]) (IntKind.i64.wrap (i+1))).h):=by kernel_rfl
theorem rt_go' (N:Nat) (t:Nat→Nod) (x:Int) (wo:List Int) (n:Nod) (m:Nat) (ys:List Int) (i:Int):obX (cutR [0,1,2,7,8,9] 2 (exec Tryz.prog (rtC1 [(38,true),(48,true)]) 60 0 (inner (inner (nthC 6 rtB))) (rtS N t x wo n m ys i)))=(andT (andT (andT (andT (andT (andT (andT (andT true (decide (i<((n.un.length:Nat):Int)))) (inB i n.un.length)) (decide (i.toNat<n.un.length))) (andT true (decide (wo.length≤274877906944)))) !inQ (n.un.getD i.toNat 0) wo) (inB i n.un.length)) (decide (i.toNat<n.un.length))) (andT (andT (andT true (decide (ys.length=m)&&(decide (m≤m)&&true))) (decide (ys.length=m))) (decide (m+1≤2^38)))):=by kernel_rfl
theorem rt_sk (N:Nat) (t:Nat→Nod) (x:Int) (wo:List Int) (n:Nod) (m:Nat) (ys:List Int) (i:Int):resX (cutR [0,1,2,7,8,9] 2 (exec Tryz.prog (rtC1 [(38,true),(48,false)]) 60 0 (inner (inner (nthC 6 rtB))) (rtS N t x wo n m ys i)))=some (.normal,(rtS N t x wo n m ys (IntKind.i64.wrap (i+1))).t,(rtS N t x wo n m ys (IntKind.i64.wrap (i+1))).h):=by kernel_rfl
theorem rt_sk' (N:Nat) (t:Nat→Nod) (x:Int) (wo:List Int) (n:Nod) (m:Nat) (ys:List Int) (i:Int):obX (cutR [0,1,2,7,8,9] 2 (exec Tryz.prog (rtC1 [(38,true),(48,false)]) 60 0 (inner (inner (nthC 6 rtB))) (rtS N t x wo n m ys i)))=(andT (andT (andT (andT (andT true (decide (i<((n.un.length:Nat):Int)))) (inB i n.un.length)) (decide (i.toNat<n.un.length))) (andT true (decide (wo.length≤274877906944)))) !!inQ (n.un.getD i.toNat 0) wo):=by kernel_rfl
theorem rt_e (N:Nat) (t:Nat→Nod) (x:Int) (wo:List Int) (n:Nod) (m:Nat) (ys:List Int) (i:Int):resX (cutR [0,1,2,7,8,9] 2 (exec Tryz.prog (rtC1 [(38,false)]) 60 0 (inner (inner (nthC 6 rtB))) (rtS N t x wo n m ys i)))=some (.exit 0,(rtS N t x wo n m ys i).t,(rtS N t x wo n m ys i).h):=by kernel_rfl
theorem rt_e' (N:Nat) (t:Nat→Nod) (x:Int) (wo:List Int) (n:Nod) (m:Nat) (ys:List Int) (i:Int):obX (cutR [0,1,2,7,8,9] 2 (exec Tryz.prog (rtC1 [(38,false)]) 60 0 (inner (inner (nthC 6 rtB))) (rtS N t x wo n m ys i)))=(andT true !decide (i<((n.un.length:Nat):Int))):=by kernel_rfl
theorem rt_w (N:Nat) (t:Nat→Nod) (x:Int) (wo:List Int) (n:Nod) (m:Nat) (ys:List Int) (i:Int):resX (cutR [0,1,2,7] 2 (exec Tryz.prog (rtC1 []) 60 0 (nthC 7 rtB) (rtS N t x wo n m ys i)))=some (.normal,rtU N t x wo,rtN n (rtV m)++[.b [.ints .i64 m ys]]):=by kernel_rfl
theorem rt_w' (N:Nat) (t:Nat→Nod) (x:Int) (wo:List Int) (n:Nod) (m:Nat) (ys:List Int) (i:Int):obX (cutR [0,1,2,7] 2 (exec Tryz.prog (rtC1 []) 60 0 (nthC 7 rtB) (rtS N t x wo n m ys i)))=(true):=by kernel_rfl
theorem rt_f (N:Nat) (t:Nat→Nod) (x:Int) (wo:List Int) (n:Nod) (un:List Int) (k:Nat) (ih:TxtFn k):resX (cutR [6] 4 (execA Tryz.prog (rtC2 k ih [(78,true),(80,true)]) 60 0 ((atoms rtB).drop 8) ⟨rtU N t x wo,rtN n (.ro false .i64 un),true⟩))=some (.ret,slotsOf 81 [(6,.sl 3 0 0 1 (1+(refNd n un).length+32+32) (1+(refNd n un).length+32+32) false true)],rtN n (.ro false .i64 un)++[.b [.ints .u8 32 (shortQ (rtxV t wo (leftV x)))],.b [.ints .u8 32 (shortQ (rtxV t wo (rightV x)))],.b [.ints .u8 (1+(refNd n un).length+32+32) ((([2]++refNd n un)++shortQ (rtxV t wo (leftV x)))++shortQ (rtxV t wo (rightV x)))]]):=by kernel_rfl
theorem rt_f' (N:Nat) (t:Nat→Nod) (x:Int) (wo:List Int) (n:Nod) (un:List Int) (k:Nat) (ih:TxtFn k):obX (cutR [6] 4 (execA Tryz.prog (rtC2 k ih [(78,true),(80,true)]) 60 0 ((atoms rtB).drop 8) ⟨rtU N t x wo,rtN n (.ro false .i64 un),true⟩))=(andT (andT (andT (andT (andT (andT (andT true (andT true (decide (0≤x)&&decide (x<64)))) (andT true ((okT N fun i=>coolL (tng t i))&&decide (N≤71)&&rtOK N (treeOf fun i=>coolL (tng t i)) wo (leftV x) k))) (andT true ((okT N fun i=>coolL (tng t i))&&decide (N≤71)&&rtOK N (treeOf fun i=>coolL (tng t i)) wo (rightV x) k))) (andT true (decide (n.key.length=32)&&decide (n.sign.length=32)&&decide (n.par.length=32)&&decide (un.length≤100)))) (andT true (decide (1+(refN n.used n.name n.key n.sign n.par un).length≤2^38)))) (andT (andT (andT (decide ((shortQ (rtxV (treeOf fun i=>coolL (tng t i)) wo (leftV x))).length=32)&&true) (decide (((List.replicate 1 0).set 0 2++refN n.used n.name n.key n.sign n.par un).length=1+(refN n.used n.name n.key n.sign n.par un).length)&&(decide (1+(refN n.used n.name n.key n.sign n.par un).length≤1+(refN n.used n.name n.key n.sign n.par un).length)&&true))) (decide (((List.replicate 1 0).set 0 2++refN n.used n.name n.key n.sign n.par un).length=1+(refN n.used n.name n.key n.sign n.par un).length))) (decide ((1+(refN n.used n.name n.key n.sign n.par un).length+32)≤2^38)))) (andT (andT (andT (decide ((shortQ (rtxV (treeOf fun i=>coolL (tng t i)) wo (rightV x))).length=32)&&true) (decide (((List.replicate 1 0).set 0 2++refN n.used n.name n.key n.sign n.par un++shortQ (rtxV (treeOf fun i=>coolL (tng t i)) wo (leftV x))).length=1+(refN n.used n.name n.key n.sign n.par un).length+32)&&(decide ((1+(refN n.used n.name n.key n.sign n.par un).length+32)≤1+(refN n.used n.name n.key n.sign n.par un).length+32)&&true))) (decide (((List.replicate 1 0).set 0 2++refN n.used n.name n.key n.sign n.par un++shortQ (rtxV (treeOf fun i=>coolL (tng t i)) wo (leftV x))).length=1+(refN n.used n.name n.key n.sign n.par un).length+32))) (decide (((1+(refN n.used n.name n.key n.sign n.par un).length+32)+32)≤2^38)))):=by kernel_rfl
theorem rt_z (N:Nat) (t:Nat→Nod) (x:Int) (wo:List Int) (n:Nod) (un:List Int) (m:Nat):St.fz 1 ⟨rtU N t x wo,rtN n (rtV m)++[.b [.ints .i64 m un]],true⟩=some (⟨rtU N t x wo,rtN n (.ro true .i64 un)++[.b []],true⟩,andT (decide (un.length=m)) (andT ((rtU N t x wo).all fun o=>match o with|some v=>fzO 1 m v|none=>true) (fzOA 1 m (rtN n (rtV m)++[.b [.ints .i64 m un]]) 0))):=by kernel_rfl
theorem rt_frz (N:Nat) (t:Nat→Nod) (x:Int) (wo:List Int) (n:Nod) (un:List Int):Ent 0 ⟨rtU N t x wo,rtN n (rtV un.length)++[.b [.ints .i64 un.length un]],true⟩ ⟨rtU N t x wo,rtN n (.ro false .i64 un),true⟩:=by
 have e:=rt_z N t x wo n un un.length
 have e2:fzOA 1 un.length (rtN n (rtV un.length)++[.b [.ints .i64 un.length un]]) 0=true:=by simp [fzOA,fzOB,fzO,fzOL,andT_iff]
 have e3:((rtU N t x wo).all fun o=>match o with|some v=>fzO 1 un.length v|none=>true)=true:=by kernel_rfl
 rw [e2,e3,decide_eq_true rfl] at e
 refine (Ent.freeze (k:=0) (b:=1) (Nat.zero_le _) e).trans ?_
 refine (Ent.trunc (n:=1) (Nat.zero_le _) (s':=⟨rtU N t x wo,rtN n (.ro true .i64 un),true⟩) (by kernel_rfl)).trans ?_
 exact Ent.blks ⟨PE.last (ps:=[.bool n.used,.int .i64 n.name,.ints .u8 32 n.key,.ints .u8 32 n.sign,.ints .u8 32 n.par]) rfl rfl (VE.roCool true .i64 un),trivial⟩
theorem rkept_take {un wo:List Int} {j:Nat} (h:j<un.length):rkept (un.take (j+1)) wo=rkept (un.take j) wo++bif inQ (un.getD j 0) wo then [] else [un.getD j 0]:=by
 unfold rkept
 rw [List.take_add_one,List.filter_append,List.getElem?_eq_getElem h,Option.toList_some,List.filter_cons,getD_get h]
 cases inQ un[j] wo<;>rfl
section
variable {N:Nat} {t:Nat→Nod} {wo:List Int}
theorem rtOK_mk {k:Nat} (hn:((List.range N).all fun i=>decide ((t i).un.length≤100))=true) (ht:treeN N=true) (hw:wo.length≤274877906944) {y:Nat} (hy:y<N) (hk:lvN 7 y<k):rtOK N t wo (y:Int) k=true:=by
 unfold rtOK
 rw [hn,ht,Int.toNat_natCast,decide_eq_true hk,decide_eq_true (show (y:Int)<N by omega),decide_eq_true (show (0:Int)≤y by omega),decide_eq_true hw];rfl
theorem rt_loop {x:Int} {n:Nod} (hw:wo.length≤274877906944) (hu:n.un.length≤100):Tr Tryz.prog none 0 (nthC 6 rtB) (rtS N t x wo n 0 [] 0) .normal (rtS N t x wo n (rkept n.un wo).length (rkept n.un wo) n.un.length):=by
 have key:Tr Tryz.prog none 0 (nthC 6 rtB) (rtS N t x wo n (rkept (n.un.take 0) wo).length (rkept (n.un.take 0) wo) ((0:Nat):Int)) .normal (rtS N t x wo n (rkept n.un wo).length (rkept n.un wo) n.un.length):=by
  refine Tr.loop 0 (by kernel_rfl) (fun j=>rtS N t x wo n (rkept (n.un.take j) wo).length (rkept (n.un.take j) wo) ((j:Nat):Int)) n.un.length (fun j hj=>?_) ?_
  ·have hle:(rkept (n.un.take j) wo).length≤100:=by
    have:=List.length_filter_le (fun u=>!inQ u wo) (n.un.take j)
    rw [List.length_take] at this
    unfold rkept;omega
   have hr:=rkept_take (wo:=wo) hj
   generalize rkept (n.un.take j) wo=ys at hle hr ⊢
   rw [hr]
   cases hb:inQ (n.un.getD j 0) wo with
   |true=>
    rw [_root_.cond_true,List.append_nil]
    have e:=rt_sk N t x wo n ys.length ys j
    rw [wrapS (by omega)] at e
    exact Tr.cutX (rtC1_ok [(38,true),(48,false)]) 60 _ 2 (Nat.zero_le _) (s':=rtS N t x wo n ys.length ys ((j+1:Nat):Int)) _ e (rt_sk' N t x wo n _ _ _) (by rw [ltN hj,inBN hj,Int.toNat_natCast,decide_eq_true hj,decide_eq_true hw,hb];rfl)
   |false=>
    rw [_root_.cond_false,List.length_append]
    have e:=rt_go N t x wo n ys.length ys j
    rw [wrapS (by omega),Int.toNat_natCast] at e
    exact Tr.cutX (rtC1_ok [(38,true),(48,true)]) 60 _ 2 (Nat.zero_le _) (s':=rtS N t x wo n (ys.length+1) (ys++[n.un.getD j 0]) ((j+1:Nat):Int)) _ e (rt_go' N t x wo n _ _ _) (by rw [ltN hj,inBN hj,Int.toNat_natCast,decide_eq_true hj,decide_eq_true hw,hb,decide_eq_true (Eq.refl ys.length),decide_eq_true (Nat.le_refl ys.length),decide_eq_true (show ys.length+1≤2^38 by omega)];rfl)
  ·have e:=rt_e N t x wo n (rkept n.un wo).length (rkept n.un wo) n.un.length
   rw [List.take_length]
   exact Tr.cutX (rtC1_ok [(38,false)]) 60 _ 2 (Nat.zero_le _) _ e (rt_e' N t x wo n _ _ _) (by rw [nltN (Nat.le_refl _)];rfl)
 exact key
theorem rText_fn:∀k,TxtFn k:=by
 intro k
 induction k with
 |zero=>intro N t wo x hT h;simp [rtOK] at h
 |succ k ih=>
  intro N t wo x hT h
  unfold rtOK at h
  simp only [Bool.and_eq_true,decide_eq_true_eq] at h
  obtain ⟨⟨⟨⟨⟨hu,ht⟩,h0⟩,hx⟩,hk⟩,hw⟩:=h
  obtain ⟨y,rfl⟩:=Int.eq_ofNat_of_zero_le h0
  rw [Int.toNat_natCast] at hk
  have hx:y<N:=by omega
  obtain ⟨n,hn,hN⟩:=treeN_iff ht
  have hs:=sizes_le hn
  have hin:inB (y:Int) N=true:=inBN hx
  have hun:=of_decide_eq_true (List.all_eq_true.1 hu y (List.mem_range.2 hx))
  obtain ⟨f1,f2⟩:=half_of (x:=y) (by omega)
  have lk:=hT.key y hx
  have lg:=hT.sign y hx
  have lp:=hT.par y hx
  have hRl:∀un:List Int,un.length≤100→(refNd (t y) un).length≤199:=fun un h=>by
   unfold refNd refN;simp [lk,lg,lp];omega
  cases hl:lvN 7 y with
  |zero=>
   have hpar:(((y:Nat):Int).tmod 2==0)=true:=by
    rw [parN]
    unfold lvN at hl
    split at hl
    ·omega
    ·rename_i hq;have:y%2≠1:=fun q=>hq q;have:=Nat.mod_two_eq_zero_or_one y;simp;omega
   have hV:rtxV t wo (y:Int)=rtxL t wo 0 y:=by unfold rtxV;rw [Int.toNat_natCast,hl]
   rw [hV,rtxL]
   cases hb:inQ ((y/2:Nat):Int) wo with
   |true=>
    have e:=rt_0 N t y wo
    rw [f2,f1,hb,hin,Int.toNat_natCast,decide_eq_true hx,hpar,decide_eq_true hw] at e
    rw [_root_.cond_true]
    have hlen:([1,((y/2:Nat):Int)]++refN false 0 z32 z32 z32 []).length=101:=by simp [refN]
    generalize [1,((y/2:Nat):Int)]++refN false 0 z32 z32 z32 []=L at e hlen
    refine FnTr.frozenI (ex:=false) (wh:=true) (N:=101) (FnTr.sel (v:=.sl 1 0 0 1 101 101 false true) (h1:=rtN ⟨false,0,z32,z32,z32,[]⟩ (.nl (.slice none 0 0))++[.b [.ints .u8 101 L]]) [1] ?_ rfl) hlen
    exact FnTr.of_callS (rtC0_ok [(21,true),(25,true)]) Tryz.func80 (n:=60) e
   |false=>
    have e:=rt_1 N t y wo
    have hB:=hRl _ hun
    rw [f2,f1,hb,hin,Int.toNat_natCast,decide_eq_true hx,hpar,decide_eq_true hw,decide_eq_true lk,decide_eq_true lg,decide_eq_true lp,decide_eq_true hun,show (refN (t y).used (t y).name (t y).key (t y).sign (t y).par (t y).un)=refNd (t y) (t y).un from rfl] at e
    rw [_root_.cond_false]
    generalize refNd (t y) (t y).un=W at e hB
    rw [decide_eq_true (show 2+W.length≤2^38 by omega)] at e
    have hlen:([1,((y/2:Nat):Int)]++W).length=2+W.length:=by simp;omega
    generalize [1,((y/2:Nat):Int)]++W=L at e hlen
    refine FnTr.frozenI (ex:=false) (wh:=true) (N:=2+W.length) (FnTr.sel (v:=.sl 1 0 0 1 (2+W.length) (2+W.length) false true) (h1:=rtN (t y) (.ro false .i64 (t y).un)++[.b [.ints .u8 (2+W.length) L]]) [1] ?_ rfl) hlen
    exact FnTr.of_callS (rtC1_ok [(21,true),(25,false)]) Tryz.func80 (n:=60) e
  |succ j=>
   have hpar:(((y:Nat):Int).tmod 2==0)=false:=by
    rw [parN]
    unfold lvN at hl
    split at hl
    ·rename_i hq;simp [hq]
    ·omega
   obtain ⟨h1,h2,h3,h4,h5,h6,h7⟩:=kid_succ hn (hN▸hx) hl
   have hV:rtxV t wo (y:Int)=(([2]++refNd (t y) (rkept (t y).un wo))++shortQ (rtxV t wo ((y-2^j:Nat):Int)))++shortQ (rtxV t wo ((y+2^j:Nat):Int)):=by
    unfold rtxV;rw [Int.toNat_natCast,Int.toNat_natCast,Int.toNat_natCast,hl,h5,h6,rtxL]
   have hok:okT N (fun i=>coolL (tng t i))=true:=okT_tng hT
   have r1:rtOK N (treeOf fun i=>coolL (tng t i)) wo ((y-2^j:Nat):Int) k=true:=rtOK_mk (t:=t) hu ht hw (by omega) (by omega)
   have r2:rtOK N (treeOf fun i=>coolL (tng t i)) wo ((y+2^j:Nat):Int) k=true:=rtOK_mk (t:=t) hu ht hw (by omega) (by omega)
   have hkl:(rkept (t y).un wo).length≤100:=Nat.le_trans (List.length_filter_le _ _) hun
   have hB:=hRl _ hkl
   have eh:=rt_h N t y wo
   have eh':=rt_h' N t y wo
   rw [Int.toNat_natCast] at eh
   have ef:=rt_f N t (y:Int) wo (t y) (rkept (t y).un wo) k ih
   have ef':=rt_f' N t (y:Int) wo (t y) (rkept (t y).un wo) k ih
   rw [h1,h2] at ef ef'
   rw [hV]
   have q1:=shortQ_len (rtxV t wo ((y-2^j:Nat):Int))
   have q2:=shortQ_len (rtxV t wo ((y+2^j:Nat):Int))
   have hlen:((([2]++refNd (t y) (rkept (t y).un wo))++shortQ (rtxV t wo ((y-2^j:Nat):Int)))++shortQ (rtxV t wo ((y+2^j:Nat):Int))).length=1+(refNd (t y) (rkept (t y).un wo)).length+32+32:=by simp only [List.length_append,List.length_cons,List.length_nil,q1,q2]
   generalize hL:(([2]++refNd (t y) (rkept (t y).un wo))++shortQ (rtxV t wo ((y-2^j:Nat):Int)))++shortQ (rtxV t wo ((y+2^j:Nat):Int))=L at ef hlen ⊢
   have hob:obX (cutR [6] 4 (execA Tryz.prog (rtC2 k ih [(78,true),(80,true)]) 60 0 ((atoms rtB).drop 8) ⟨rtU N t y wo,rtN (t y) (.ro false .i64 (rkept (t y).un wo)),true⟩))=true:=by
    refine ef'.trans ?_
    have q1':(shortQ (rtxV (treeOf fun i=>coolL (tng t i)) wo ((y-2^j:Nat):Int))).length=32:=q1
    have q2':(shortQ (rtxV (treeOf fun i=>coolL (tng t i)) wo ((y+2^j:Nat):Int))).length=32:=q2
    rw [hok,r1,r2,decide_eq_true hT.le,q1',q2']
    unfold refNd at hB
    have q3:=shortQ_len (rtxV (treeOf fun i=>coolL (tng t i)) wo ((y-2^j:Nat):Int))
    generalize shortQ (rtxV (treeOf fun i=>coolL (tng t i)) wo ((y-2^j:Nat):Int))=A at q3 ⊢
    generalize refN (t y).used (t y).name (t y).key (t y).sign (t y).par (rkept (t y).un wo)=W at hB ⊢
    simp only [andT_iff,Bool.and_eq_true,decide_eq_true_eq,List.length_append,q3,lk,lg,lp]
    simp
    omega
   generalize 1+(refNd (t y) (rkept (t y).un wo)).length+32+32=M at ef hlen
   refine FnTr.frozenI (ex:=false) (wh:=true) (N:=M) (FnTr.sel (v:=.sl 3 0 0 1 M M false true) (h1:=rtN (t y) (.ro false .i64 (rkept (t y).un wo))++[.b [.ints .u8 32 (shortQ (rtxV t wo ((y-2^j:Nat):Int)))],.b [.ints .u8 32 (shortQ (rtxV t wo ((y+2^j:Nat):Int)))],.b [.ints .u8 M L]]) [3] ?_ rfl) hlen
   refine FnTr.mk (vs:=[.sl 3 0 0 1 M M false true]) Tryz.func80 rfl (x:=.ret) (s:=⟨slotsOf 81 [(6,.sl 3 0 0 1 M M false true)],rtN (t y) (.ro false .i64 (rkept (t y).un wo))++[.b [.ints .u8 32 (shortQ (rtxV t wo ((y-2^j:Nat):Int)))],.b [.ints .u8 32 (shortQ (rtxV t wo ((y+2^j:Nat):Int)))],.b [.ints .u8 M L]],true⟩) ?_ (.inl rfl) (by kernel_rfl)
   refine TrL.itemsX (rtC1_ok [(21,false)]) 60 6 _ 1 (Nat.zero_le _) (s1:=⟨rtT N t y wo (.nl (.slice none 0 0)) 0,rtN (t y) (.ro false .i64 (t y).un),true⟩) _ eh eh' ?_ (by decide) rfl ?_
   ·rw [hin,Int.toNat_natCast,decide_eq_true hx,hpar];rfl
   refine TrL.pre (s1:=rtS N t y wo (t y) 0 [] 0) ?_ ((Ent.nilBlk 8 (by kernel_rfl) .i64 false true).trans (Ent.same (by kernel_rfl) rfl)) (by intro q;have:=congrArg List.length q;revert this;decide)
   refine TrL.item 6 (by decide) (rt_loop hw hun) ?_
   refine TrL.item 7 (by decide) (s1:=⟨rtU N t y wo,rtN (t y) (.ro false .i64 (rkept (t y).un wo)),true⟩) (Tr.post (Tr.cutX (rtC1_ok []) 60 _ 2 (Nat.zero_le _) (s':=⟨rtU N t y wo,rtN (t y) (rtV (rkept (t y).un wo).length)++[.b [.ints .i64 (rkept (t y).un wo).length (rkept (t y).un wo)]],true⟩) _ (rt_w N t y wo (t y) _ _ _) (rt_w' N t y wo (t y) _ _ _) rfl) (rt_frz N t y wo (t y) _)) ?_
   exact TrL.cutA (rtC2_ok k ih [(78,true),(80,true)]) 60 _ 4 (Nat.zero_le _) _ ef hob rfl (by intro q;have:=congrArg List.length q;revert this;decide)
end
end Go.Proofs.YthlnlcijnoadcaaGreatDoor.Mk
end
