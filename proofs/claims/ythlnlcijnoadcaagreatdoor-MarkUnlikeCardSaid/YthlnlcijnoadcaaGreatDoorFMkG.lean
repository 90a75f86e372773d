/- This file holds the texts MkF, MkG, a section each. No conditions beyond those in the theorems. -/
import Derived.Test.YthlnlcijnoadcaaGreatDoorFMkE
set_option linter.all false
set_option maxRecDepth 100000
section
namespace Go.Proofs.YthlnlcijnoadcaaGreatDoor.Mk
open Go Go.Sy Tr Wi S2
open Q2 (shortQ shortDRE By shortW_eq)
theorem byN_all:((List.range 256).all fun x=>byN (x:Int)==(x:Int)&&IntKind.u8.wrap (x:Int)==(x:Int))=true:=by decide+kernel
theorem byN_of {x:Int} (h0:0≤x) (h1:x≤255):byN x=x∧IntKind.u8.wrap x=x:=by
 obtain ⟨y,rfl⟩:=Int.eq_ofNat_of_zero_le h0
 have:=List.all_eq_true.1 byN_all y (List.mem_range.2 (by omega))
 simpa only [Bool.and_eq_true,beq_iff_eq] using this
theorem nod_ref {n:Nod} {un:List Int} (h:nodB n un=true):nodW n un=refNd n un:=by
 unfold nodB Wi.nodeB at h
 simp only [Bool.and_eq_true,decide_eq_true_eq] at h
 obtain ⟨⟨⟨⟨⟨⟨⟨⟨hk,hs⟩,hp⟩,h0⟩,h1⟩,hu⟩,hr⟩,hl⟩,hz⟩:=h
 unfold nodW refNd nodeW refN liW
 have e1:=byN_of h0 h1
 have e2:=byN_of (x:=(un.length:Int)) (by omega) (by omega)
 have e3:un.map byN=un.map IntKind.u8.wrap:=List.map_congr_left fun u hu'=>by
  have:=List.all_eq_true.1 hu u hu'
  simp only [Bool.and_eq_true,decide_eq_true_eq] at this
  have:=byN_of this.1 (show u≤255 by omega)
  rw [this.1,this.2]
 rw [e1.1,e2.1,e3,rnP,e1.2,e2.2]
 simp
theorem by_app {a b:List Int} (ha:By a) (hb:By b):By (a++b):=fun x hx=>(List.mem_append.1 hx).elim (ha x) (hb x)
theorem nod_by {n:Nod} {un:List Int} (h:nodB n un=true) (ok:n.OK):By (refNd n un):=by
 unfold nodB Wi.nodeB at h
 simp only [Bool.and_eq_true,decide_eq_true_eq] at h
 obtain ⟨⟨⟨⟨⟨⟨⟨⟨hk,hs⟩,hp⟩,h0⟩,h1⟩,hu⟩,hr⟩,hl⟩,hz⟩:=h
 unfold refNd refN rnP
 have e1:=byN_of h0 h1
 have e2:=byN_of (x:=(un.length:Int)) (by omega) (by omega)
 refine by_app (by_app (by_app (by_app (by_app ?_ ok.key.2) ok.sign.2) ok.par.2) ?_) ?_
 ·intro x hx
  rw [e1.2] at hx
  simp only [List.mem_cons,List.not_mem_nil,or_false] at hx
  rcases hx with rfl|rfl
  ·cases n.used<;>decide
  ·omega
 ·intro x hx
  rw [e2.2] at hx
  simp only [List.mem_cons,List.not_mem_nil,or_false] at hx
  subst hx;omega
 ·intro x hx
  obtain ⟨u,hu',rfl⟩:=List.mem_map.1 hx
  have:=List.all_eq_true.1 hu u hu'
  simp only [Bool.and_eq_true,decide_eq_true_eq] at this
  rw [(byN_of this.1 (show u≤255 by omega)).2];omega
theorem kept_eq (un wo:List Int):rkept un wo=keptB un wo:=by
 unfold rkept keptB
 congr 1;funext u;rw [inQ_has]
abbrev blankN:Nod:=⟨false,0,z32,z32,z32,[]⟩
theorem blankN_ok:blankN.OK:=⟨by decide,by decide,by decide,by decide,by decide⟩
theorem blankN_B:nodB blankN []=true:=by decide+kernel
theorem short_by (l:List Int):By (shortW l):=shortW_by l
section
variable {N n:Nat} {t:Nat→Nod} {wo:List Int}
theorem dig_txt (hn:n∈sizes) (hN:N=2*n-1) (hB:((List.range N).all fun i=>nodB (t i) (t i).un&&nodB (t i) (keptB (t i).un wo))=true) (ok:∀i,i<N→(t i).OK):
  ∀k x,x<N→lvN 7 x=k→By (rtxL t wo k x)∧(rtxL t wo k x).length≤300∧digL t wo k x=shortQ (rtxL t wo k x):=by
 have hs:=sizes_le hn
 have hlen:∀(m:Nod) (un:List Int),nodB m un=true→(refNd m un).length≤131:=fun m un h=>nod_ref h▸nodW_len h
 intro k
 induction k with
 |zero=>
  intro x hx hk
  have g:=List.all_eq_true.1 hB x (List.mem_range.2 hx)
  rw [Bool.and_eq_true] at g
  have h1:By [1,((x/2:Nat):Int)]:=by
   intro z hz
   simp only [List.mem_cons,List.not_mem_nil,or_false] at hz
   rcases hz with rfl|rfl<;>omega
  have key:By (rtxL t wo 0 x)∧(rtxL t wo 0 x).length≤300∧[[1,((x/2:Nat):Int)],leafW t wo x].flatten=rtxL t wo 0 x:=by
   unfold rtxL leafW
   rw [inQ_has]
   cases hasB wo ((x/2:Nat):Int) with
   |true=>
    have q:=hlen _ _ blankN_B
    refine ⟨by_app h1 (nod_by blankN_B blankN_ok),?_,?_⟩
    ·show ([1,((x/2:Nat):Int)]++refNd blankN []).length≤300
     simp only [List.length_append,List.length_cons,List.length_nil];omega
    ·show [1,((x/2:Nat):Int)]++(nodW blankN []++[])=[1,((x/2:Nat):Int)]++refNd blankN []
     rw [nod_ref blankN_B,List.append_nil]
   |false=>
    have q:=hlen _ _ g.1
    refine ⟨by_app h1 (nod_by g.1 (ok x hx)),?_,?_⟩
    ·show ([1,((x/2:Nat):Int)]++refNd (t x) (t x).un).length≤300
     simp only [List.length_append,List.length_cons,List.length_nil];omega
    ·show [1,((x/2:Nat):Int)]++(nodW (t x) (t x).un++[])=[1,((x/2:Nat):Int)]++refNd (t x) (t x).un
     rw [nod_ref g.1,List.append_nil]
  refine ⟨key.1,key.2.1,?_⟩
  rw [digL,key.2.2]
  exact shortW_eq key.1 (by omega)
 |succ k ih=>
  intro x hx hk
  obtain ⟨h1,h2,h3,h4,h5,h6,h7⟩:=kid_succ hn (hN▸hx) hk
  have g:=List.all_eq_true.1 hB x (List.mem_range.2 hx)
  rw [Bool.and_eq_true] at g
  obtain ⟨a1,_,a3⟩:=ih (x-2^k) (by omega) h5
  obtain ⟨b1,_,b3⟩:=ih (x+2^k) (by omega) h6
  have q:=hlen _ _ g.2
  have l1:By (shortQ (rtxL t wo k (x-2^k))):=by rw [←a3];cases k<;>exact short_by _
  have l2:By (shortQ (rtxL t wo k (x+2^k))):=by rw [←b3];cases k<;>exact short_by _
  have key:By (rtxL t wo (k+1) x)∧(rtxL t wo (k+1) x).length≤300∧[[2],nodW (t x) (keptB (t x).un wo),digL t wo k (x-2^k),digL t wo k (x+2^k)].flatten=rtxL t wo (k+1) x:=by
   rw [rtxL,kept_eq,a3,b3,nod_ref g.2]
   refine ⟨by_app (by_app (by_app (by intro z hz;simp at hz;omega) (nod_by g.2 (ok x hx))) l1) l2,?_,?_⟩
   ·simp only [List.length_append,List.length_cons,List.length_nil,shortQ_len];omega
   ·simp only [List.flatten_cons,List.flatten_nil,List.append_nil,List.append_assoc]
  refine ⟨key.1,key.2.1,?_⟩
  rw [digL,key.2.2]
  exact shortW_eq key.1 (by omega)
theorem dig_eq (hT:TOK N t) (h:checkB N t=true) (hw:wo.length≤274877906944) (ok:∀i,i<N→(t i).OK) {x:Int} (h0:0≤x) (h1:x<N):shortQ (rtxV t wo x)=digV t wo x:=by
 obtain ⟨n,hn,_,hN,hg⟩:=check_parts hT h
 have q:=check_dig hT h hw h0 h1
 unfold digOK at q
 simp only [Bool.and_eq_true] at q
 exact (dig_txt hn hN q.1.1.1.1.1 ok (lvN 7 x.toNat) x.toNat (by omega) rfl).2.2.symm
theorem check_rt (hT:TOK N t) (h:checkB N t=true) (hw:wo.length≤274877906944) {x:Int} (h0:0≤x) (h1:x<N):rtOK N t wo x 8=true:=by
 obtain ⟨hu,ht⟩:=check_un hT h
 obtain ⟨y,rfl⟩:=Int.eq_ofNat_of_zero_le h0
 refine rtOK_mk (List.all_eq_true.2 fun i hi=>decide_eq_true ?_) ht hw (by omega) (by have:=lvN_le 7 y;omega)
 have:=(un_of hu (List.mem_range.1 hi)).1
 omega
end
noncomputable def bytT (N:Nat) (t:Nat→Nod):Bool:=(List.range N).all fun i=>(t i).key.all (fun z=>decide (0≤z)&&decide (z<256))&&(t i).sign.all (fun z=>decide (0≤z)&&decide (z<256))&&(t i).par.all (fun z=>decide (0≤z)&&decide (z<256))&&decide ((Lit.int .i64 (t i).name).wf=true)&&(t i).un.all fun z=>(Lit.int .i64 z).wf
theorem bytT_ok {N:Nat} {t:Nat→Nod} (hT:TOK N t) (h:bytT N t=true):∀i,i<N→(t i).OK:=fun i hi=>by
 have:=List.all_eq_true.1 h i (List.mem_range.2 hi)
 simp only [Bool.and_eq_true,List.all_eq_true,decide_eq_true_eq] at this
 obtain ⟨⟨⟨⟨h1,h2⟩,h3⟩,h4⟩,h5⟩:=this
 exact ⟨h4,⟨hT.key i hi,h1⟩,⟨hT.sign i hi,h2⟩,⟨hT.par i hi,h3⟩,h5⟩
noncomputable def rDigestE:Entry Tryz.prog:=.val 36 _ Tryz.func36 (by decide) rfl true 0 (fun vs=>match vs with
 | [.rol false 99 N g,.int .i64 x,.ro false .i64 wo]=>some (.agg [.ints .u8 32 (digV (treeOf g) wo x)],[],okT N g&&decide (N≤71)&&decide (wo.length≤274877906944)&&dgQ N (treeOf g) x&&bytT N (treeOf g))
 |_=>none) fun vs v new e=>by
 split at e
 ·simp only [Option.some.injEq,Prod.mk.injEq,Bool.and_eq_true,decide_eq_true_eq] at e
  obtain ⟨rfl,rfl,⟨⟨⟨h1,h2⟩,h3⟩,h4⟩,h5⟩:=e
  unfold dgQ at h4
  simp only [Bool.and_eq_true,decide_eq_true_eq] at h4
  obtain ⟨⟨q0,q1⟩,q2⟩:=h4
  have hT:=TOK.of h1 h2
  rw [←dig_eq hT q2 h3 (bytT_ok hT h5) q0 q1]
  exact FnTr.conv (rdg_fn (rText_fn 8) hT (check_rt hT q2 h3 q0 q1)) ⟨VE.tree h1,VE.refl _,VE.refl _,trivial⟩ trivial (VE.refl _) trivial
 ·cases e
noncomputable def rDigest0E:Entry Tryz.prog:=.val 36 _ Tryz.func36 (by decide) rfl true 0 (fun vs=>match vs with
 | [.rol false 99 N g,.int .i64 x,.nl (.slice none 0 0)]=>some (.agg [.ints .u8 32 (digV (treeOf g) [] x)],[],okT N g&&decide (N≤71)&&dgQ N (treeOf g) x&&bytT N (treeOf g))
 |_=>none) fun vs v new e=>by
 split at e
 ·simp only [Option.some.injEq,Prod.mk.injEq,Bool.and_eq_true,decide_eq_true_eq] at e
  obtain ⟨rfl,rfl,⟨⟨h1,h2⟩,h4⟩,h5⟩:=e
  unfold dgQ at h4
  simp only [Bool.and_eq_true,decide_eq_true_eq] at h4
  obtain ⟨⟨q0,q1⟩,q2⟩:=h4
  have hT:=TOK.of h1 h2
  rw [←dig_eq hT q2 (by simp) (bytT_ok hT h5) q0 q1]
  exact FnTr.conv (rdg_fn (rText_fn 8) hT (check_rt (wo:=[]) hT q2 (by simp) q0 q1)) ⟨VE.tree h1,VE.refl _,VE.nilRo false .i64,trivial⟩ trivial (VE.refl _) trivial
 ·cases e
noncomputable def rtrC (l:List (Nat×Bool)):Ctr:=mk (P:=Tryz.prog) [rDigest0E] [] (uT l)
theorem rtrC_ok (l:List (Nat×Bool)):CtrSound Tryz.prog (rtrC l):=mk_sound _ InlOK.nil _ _
theorem rtr_a (N:Nat) (t:Nat→Nod):(callS Tryz.prog (rtrC []) 60 Tryz.f35 [.rol false 99 N (tng t)] []).map (fun x=>(x.1,x.2.2))=some (.agg [.ints .u8 32 (digV t [] (IntKind.i64.wrap ((N:Int).tdiv 2)))],andT true (andT true ((okT N fun i=>coolL (tng t i))&&decide (N≤71)&&dgQ N (treeOf fun i=>coolL (tng t i)) (IntKind.i64.wrap ((((N:Nat):Int)).tdiv 2))&&bytT N (treeOf fun i=>coolL (tng t i))))):=by kernel_rfl
theorem rTree_fn {N:Nat} {t:Nat→Nod} (hT:TOK N t) (hq:dgQ N t ((N/2:Nat):Int)=true) (hb:bytT N t=true):FnTr Tryz.prog 35 [.rol false 99 N (tng t)] [] (.agg [.ints .u8 32 (digV t [] ((N/2:Nat):Int))]) []:=by
 have hok:okT N (fun i=>coolL (tng t i))=true:=okT_tng hT
 have e:=rtr_a N t
 rw [halfN hT.le] at e
 exact call0 (rtrC_ok _) 60 Tryz.func35 e (by rw [hok,decide_eq_true hT.le,show dgQ N (treeOf fun i=>coolL (tng t i)) _=true from hq,show bytT N (treeOf fun i=>coolL (tng t i))=true from hb];rfl) rfl
end Go.Proofs.YthlnlcijnoadcaaGreatDoor.Mk
end
section
namespace Go.Proofs.YthlnlcijnoadcaaGreatDoor.Mk
open Go Go.Sy Tr Wi S2
open Q2 (shortQ shortDRE By shortW_eq)
noncomputable def lhB:Code:=bodyOf Tryz.f32
noncomputable def lhS (N:Nat) (t:Nat→Nod) (i:Int):St:=⟨slotsOf 21 [(5,.rol false 99 N (tng t)),(6,.int .i64 N),(7,.int .i64 i)],[],true⟩
noncomputable def bS15 (k r:Nat) (b:Bool):St:=⟨slotsOf k [(r,.bool b)],[],true⟩
theorem lh_head (N:Nat) (t:Nat→Nod):resX (cutR [5,6,7] 0 ((execL Tryz.prog (rnC []) 60 0 2 (atoms lhB) ⟨slots0 Tryz.f32.ntmps [.rol false 99 N (tng t)],[],true⟩).map fun s=>(Exit.normal,s)))=some (.normal,(lhS N t 0).t,[]):=by kernel_rfl
theorem lh_head' (N:Nat) (t:Nat→Nod):obX (cutR [5,6,7] 0 ((execL Tryz.prog (rnC []) 60 0 2 (atoms lhB) ⟨slots0 Tryz.f32.ntmps [.rol false 99 N (tng t)],[],true⟩).map fun s=>(Exit.normal,s)))=(true):=by kernel_rfl
theorem lh_go (N:Nat) (t:Nat→Nod) (i:Int):resX (cutR [5,6,7] 0 (exec Tryz.prog (rnC [(8,true),(13,false),(18,false)]) 60 0 (inner (inner (nthC 2 lhB))) (lhS N t i)))=some (.normal,(lhS N t (IntKind.i64.wrap (i+1))).t,[]):=by kernel_rfl
theorem lh_go' (N:Nat) (t:Nat→Nod) (i:Int):obX (cutR [5,6,7] 0 (exec Tryz.prog (rnC [(8,true),(13,false),(18,false)]) 60 0 (inner (inner (nthC 2 lhB))) (lhS N t i)))=(andT (andT (andT (andT (andT true (decide (i<((N:Nat):Int)))) (inB i N)) (true&&(decide (i.toNat<N)&&true))) !decide (i>40)) !decide ((((t i.toNat).un.length:Nat):Int)>50)):=by kernel_rfl
theorem lh_a (N:Nat) (t:Nat→Nod) (i:Int):resX (cutR [2] 0 (exec Tryz.prog (rnC [(8,true),(13,true)]) 60 0 (inner (inner (nthC 2 lhB))) (lhS N t i)))=some (.ret,(bS15 21 2 true).t,[]):=by kernel_rfl
theorem lh_a' (N:Nat) (t:Nat→Nod) (i:Int):obX (cutR [2] 0 (exec Tryz.prog (rnC [(8,true),(13,true)]) 60 0 (inner (inner (nthC 2 lhB))) (lhS N t i)))=(andT (andT (andT (andT true (decide (i<((N:Nat):Int)))) (inB i N)) (true&&(decide (i.toNat<N)&&true))) (decide (i>40))):=by kernel_rfl
theorem lh_b (N:Nat) (t:Nat→Nod) (i:Int):resX (cutR [2] 0 (exec Tryz.prog (rnC [(8,true),(13,false),(18,true)]) 60 0 (inner (inner (nthC 2 lhB))) (lhS N t i)))=some (.ret,(bS15 21 2 true).t,[]):=by kernel_rfl
theorem lh_b' (N:Nat) (t:Nat→Nod) (i:Int):obX (cutR [2] 0 (exec Tryz.prog (rnC [(8,true),(13,false),(18,true)]) 60 0 (inner (inner (nthC 2 lhB))) (lhS N t i)))=(andT (andT (andT (andT (andT true (decide (i<((N:Nat):Int)))) (inB i N)) (true&&(decide (i.toNat<N)&&true))) !decide (i>40)) (decide ((((t i.toNat).un.length:Nat):Int)>50))):=by kernel_rfl
theorem lh_end (N:Nat) (t:Nat→Nod) (i:Int):resX (cutR [] 0 (exec Tryz.prog (rnC [(8,false)]) 60 0 (inner (inner (nthC 2 lhB))) (lhS N t i)))=some (.exit 0,slotsOf 21 [],[]):=by kernel_rfl
theorem lh_end' (N:Nat) (t:Nat→Nod) (i:Int):obX (cutR [] 0 (exec Tryz.prog (rnC [(8,false)]) 60 0 (inner (inner (nthC 2 lhB))) (lhS N t i)))=(andT true !decide (i<((N:Nat):Int))):=by kernel_rfl
section
variable {N M:Nat} {t u:Nat→Nod}
def lhJ (t:Nat→Nod) (i:Nat):Bool:=!decide ((i:Int)>40)&&!decide (((t i).un.length:Int)>50)
def largeM (N:Nat) (t:Nat→Nod):Bool:=scanV (lhJ t) N (fun _=>true) false
theorem largeM_fn:FnTr Tryz.prog 32 [.rol false 99 N (tng t)] [] (.bool (largeM N t)) []:=by
 have key:=FnTr.scan (P:=Tryz.prog) (args:=[.rol false 99 N (tng t)]) (h:=[]) (h':=[]) Tryz.func32 rfl 2 0 (fun j:Nat=>lhS N t ((j:Nat):Int)) (lhJ t) N
  (fun x s' g=>TrL.itemsX (rnC_ok []) 60 2 _ 0 (by simp) (s1:=lhS N t ((0:Nat):Int)) _ (lh_head N t) (lh_head' N t) rfl (by decide) rfl g) (by decide) (by kernel_rfl)
  (fun j hj hb _=>?_) (fun i=>bS15 21 2 true) (fun i=>[.bool true]) (fun j hj hb _=>⟨?_,rfl,rfl⟩) (sE:=⟨slotsOf 21 [],[],true⟩) (sE':=bS15 21 2 false) (vE:=[.bool false]) (xE:=.ret) (fun _=>?_) (fun _=>⟨?_,.inl rfl,rfl,rfl⟩)
 ·rw [oneOf_scan (g:=SV.bool) (vF:=fun _:Nat=>true) (vE:=false)] at key
  exact key
 ·unfold lhJ at hb
  obtain ⟨h1,h2⟩:=Bool.and_eq_true_iff.1 hb
  have h40:¬((j:Int)>40):=by
   intro q
   rw [decide_eq_true q] at h1
   cases h1
  have e:=lh_go N t j
  rw [wrapS (by omega)] at e
  exact Tr.cutX (rnC_ok [(8,true),(13,false),(18,false)]) 60 _ 0 (Nat.le_refl _) (s':=lhS N t ((j+1:Nat):Int)) _ e (lh_go' N t j) (by
   rw [Int.toNat_natCast,ltN hj,inBN hj,decide_eq_true hj,h1,h2];rfl)
 ·cases h1:decide ((j:Int)>40) with
  |true=>exact Tr.cutX (rnC_ok [(8,true),(13,true)]) 60 _ 0 (Nat.le_refl _) (s':=bS15 21 2 true) _ (lh_a N t j) (lh_a' N t j) (by rw [Int.toNat_natCast,ltN hj,inBN hj,decide_eq_true hj,h1];rfl)
  |false=>
   unfold lhJ at hb
   rw [h1] at hb
   have h2:decide (((t j).un.length:Int)>50)=true:=by simpa using hb
   exact Tr.cutX (rnC_ok [(8,true),(13,false),(18,true)]) 60 _ 0 (Nat.le_refl _) (s':=bS15 21 2 true) _ (lh_b N t j) (lh_b' N t j) (by rw [Int.toNat_natCast,ltN hj,inBN hj,decide_eq_true hj,h1,h2];rfl)
 ·exact Tr.cutX (rnC_ok [(8,false)]) 60 _ 0 (Nat.le_refl _) (s':=⟨slotsOf 21 [],[],true⟩) _ (lh_end N t _) (lh_end' N t _) (by rw [nltN (Nat.le_refl _)];rfl)
 ·exact TrL.rest (rnC_ok []) 60 (by kernel_rfl) rfl
def PARTS (N:Nat) (t:Nat→Nod):Prop:=∀i,i<N→lensB (t i).key (t i).sign (t i).par (t i).un=true
def nsB (a b:Nod):Bool:=sameB a.used b.used a.name b.name a.key a.sign a.par a.un b.key b.sign b.par b.un
def treeB (N M:Nat) (t u:Nat→Nod):Bool:=!((N:Int) != (M:Int))&&scanV (fun i=>nsB (t i) (u i)) N (fun _=>false) true
theorem largeM_le (h:largeM N t=false):N≤41:=by
 unfold largeM scanV at h
 cases hq:firstN (lhJ t) N with
 |some j=>rw [hq] at h;cases h
 |none=>
  refine Classical.byContradiction fun g=>?_
  have:=firstN_none hq 41 (by omega)
  unfold lhJ at this
  rw [decide_eq_true (show ((41:Nat):Int)>40 by omega)] at this
  cases this
theorem largeM_un (h:largeM N t=false):∀i,i<N→(t i).un.length≤274877906944:=by
 unfold largeM scanV at h
 cases hq:firstN (lhJ t) N with
 |some j=>rw [hq] at h;cases h
 |none=>
  intro i hi
  have:=firstN_none hq i hi
  unfold lhJ at this
  have h2:=(Bool.and_eq_true_iff.1 this).2
  refine Classical.byContradiction fun g=>?_
  rw [decide_eq_true (show ((t i).un.length:Int)>50 by omega)] at h2
  cases h2
end
noncomputable def largeME:Entry Tryz.prog:=.val 32 _ Tryz.func32 (by decide) rfl true 0 (fun vs=>match vs with
 | [.rol false 99 N g]=>some (.bool (largeM N (treeOf g)),[],okT0 N g)
 |_=>none) fun vs v new e=>by
 split at e
 ·rename_i N g
  simp only [Option.some.injEq,Prod.mk.injEq] at e
  obtain ⟨rfl,rfl,h1⟩:=e
  exact FnTr.conv (largeM_fn (t:=treeOf g)) ⟨VE.rolc fun i hi=>okNod0_eq (List.all_eq_true.1 h1 i (List.mem_range.2 hi)),trivial⟩ trivial (VE.refl _) trivial
 ·cases e
noncomputable def bo1C (b:Bool) (l:List (Nat×Bool)):Ctr:=mk (P:=Tryz.prog) [checkE b] [] (uT l)
theorem bo1C_ok (b:Bool) (l:List (Nat×Bool)):CtrSound Tryz.prog (bo1C b l):=mk_sound _ InlOK.nil _ _
theorem bo1_t (t:Nat→Nod):(callS Tryz.prog (bo1C true []) 60 Tryz.f37 [.rol false 99 1 (tng t)] []).map (fun x=>(x.1,x.2.2))=some (.bool true,andT true (andT true ((okT 1 fun i=>coolL (tng t i))&&true&&checkB 1 (treeOf fun i=>coolL (tng t i))==true))):=by kernel_rfl
theorem bo1_f (t:Nat→Nod):(callS Tryz.prog (bo1C false []) 60 Tryz.f37 [.rol false 99 1 (tng t)] []).map (fun x=>(x.1,x.2.2))=some (.bool false,andT true (andT true ((okT 1 fun i=>coolL (tng t i))&&true&&checkB 1 (treeOf fun i=>coolL (tng t i))==false))):=by kernel_rfl
theorem bound1_fn {t:Nat→Nod} (hT:TOK 1 t):FnTr Tryz.prog 37 [.rol false 99 1 (tng t)] [] (.bool (checkB 1 t)) []:=by
 have hok:okT 1 (fun i=>coolL (tng t i))=true:=okT_tng hT
 cases h:checkB 1 t with
 |true=>exact call0 (bo1C_ok true _) 60 Tryz.func37 (bo1_t t) (by rw [hok,show checkB 1 (treeOf fun i=>coolL (tng t i))=true from h];rfl) rfl
 |false=>exact call0 (bo1C_ok false _) 60 Tryz.func37 (bo1_f t) (by rw [hok,show checkB 1 (treeOf fun i=>coolL (tng t i))=false from h];rfl) rfl
end Go.Proofs.YthlnlcijnoadcaaGreatDoor.Mk
end
