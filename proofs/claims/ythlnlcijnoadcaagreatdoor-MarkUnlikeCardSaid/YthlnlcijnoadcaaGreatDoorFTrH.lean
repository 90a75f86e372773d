/- This file proves the contract of tree's upper. Conditions: a tree of 32 leaves at most. -/
import Derived.Test.YthlnlcijnoadcaaGreatDoorFTrG
set_option linter.all false
set_option maxRecDepth 100000
namespace Go.Proofs.YthlnlcijnoadcaaGreatDoor.Tr
open Go Go.Sy
def nodOf:List SV→Nod
 | [.bool u,.int .i64 n,.ints .u8 32 k,.ints .u8 32 s,.ints .u8 32 p,.ro _ .i64 un]=>⟨u,n,k,s,p,un⟩
 |_=>default
def treeOf (g:Nat→List SV):Nat→Nod:=fun i=>nodOf (g i)
def okNod:List SV→Bool
 | [.bool _,.int .i64 _,.ints .u8 32 k,.ints .u8 32 s,.ints .u8 32 p,.ro false .i64 un]=>decide (un.length≤274877906944)&&decide (k.length=32)&&decide (s.length=32)&&decide (p.length=32)
 |_=>false
theorem okNod_iff {l:List SV}:okNod l=true↔l=(nodOf l).cells∧(nodOf l).un.length≤274877906944∧(nodOf l).key.length=32∧(nodOf l).sign.length=32∧(nodOf l).par.length=32:=by
 constructor
 ·intro h
  unfold okNod at h
  split at h
  ·simp only [Bool.and_eq_true,decide_eq_true_eq] at h
   obtain ⟨⟨⟨h1,h2⟩,h3⟩,h4⟩:=h
   exact ⟨rfl,h1,h2,h3,h4⟩
  ·cases h
 ·rintro ⟨h0,h1,h2,h3,h4⟩
  rw [h0]
  show (decide _&&decide _&&decide _&&decide _)=true
  simp only [Bool.and_eq_true,decide_eq_true_eq]
  exact ⟨⟨⟨h1,h2⟩,h3⟩,h4⟩
def okT (N:Nat) (g:Nat→List SV):Bool:=(List.range N).all fun i=>okNod (g i)
theorem okT_iff {N:Nat} {g:Nat→List SV}:okT N g=true↔∀i,i<N→g i=(nodOf (g i)).cells∧(nodOf (g i)).un.length≤274877906944∧(nodOf (g i)).key.length=32∧(nodOf (g i)).sign.length=32∧(nodOf (g i)).par.length=32:=by
 unfold okT
 rw [List.all_eq_true]
 exact ⟨fun h i hi=>okNod_iff.1 (h i (List.mem_range.2 hi)),fun h i hi=>okNod_iff.2 (h i (List.mem_range.1 hi))⟩
structure TOK (N:Nat) (t:Nat→Nod):Prop where
 le:N≤71
 un:∀i,i<N→(t i).un.length≤274877906944
 key:∀i,i<N→(t i).key.length=32
 sign:∀i,i<N→(t i).sign.length=32
 par:∀i,i<N→(t i).par.length=32
theorem okT_tng {N:Nat} {t:Nat→Nod} (h:TOK N t):okT N (tng t)=true:=okT_iff.2 fun i hi=>⟨rfl,h.un i hi,h.key i hi,h.sign i hi,h.par i hi⟩
theorem TOK.of {N:Nat} {g:Nat→List SV} (h:okT N g=true) (hN:N≤71):TOK N (treeOf g):=by
 have h:=okT_iff.1 h
 exact ⟨hN,fun i hi=>(h i hi).2.1,fun i hi=>(h i hi).2.2.1,fun i hi=>(h i hi).2.2.2.1,fun i hi=>(h i hi).2.2.2.2⟩
theorem VE.rolc {f:Bool} {z N:Nat} {g g':Nat→List SV} (h:∀i,i<N→g i=g' i):VE (.rol f z N g) (.rol f z N g'):=fun e x hx=>by
 rcases hx with hx|⟨n,o,cap,c,t,fr,h1,h2,h3,h4,h5,h6⟩
 ·exact .inl hx
 ·exact .inr ⟨n,o,cap,c,t,fr,h1,h2,h3,fun i hi=>by rw [←h i hi];exact h4 i hi,h5,h6⟩
theorem VE.tree {N:Nat} {g:Nat→List SV} (h:okT N g=true):VE (.rol false 99 N g) (.rol false 99 N (tng (treeOf g))):=VE.rolc fun i hi=>(okT_iff.1 h i hi).1
def leafOK (N:Nat) (i n:Int):Bool:=sizes.any fun m=>decide (n=m)&&decide (0≤i)&&decide (i<m)&&decide (N=2*m-1)
theorem leafOK_iff {N:Nat} {i n:Int} (h:leafOK N i n=true):∃m∈sizes,∃y:Nat,n=(m:Int)∧i=(y:Int)∧y<m∧N=2*m-1:=by
 obtain ⟨m,hm,h⟩:=List.any_eq_true.1 h
 simp only [Bool.and_eq_true,decide_eq_true_eq] at h
 obtain ⟨⟨⟨rfl,h0⟩,h1⟩,h2⟩:=h
 obtain ⟨y,rfl⟩:=Int.eq_ofNat_of_zero_le h0
 exact ⟨m,hm,y,rfl,rfl,by omega,h2⟩
theorem leafOK_mk {N m y:Nat} (hm:m∈sizes) (hy:y<m) (hN:N=2*m-1):leafOK N y m=true:=List.any_eq_true.2 ⟨m,hm,by simp;omega⟩
noncomputable def betweenF:List SV→Option (SV×List Blk×Bool)
 | [.rol false 99 N g,.int .i64 x,.int .i64 i,.int .i64 n]=>some (.bool (btwB (treeOf g) x i.toNat n.toNat),[],okT N g&&leafOK N i n)
 |_=>none
noncomputable def betweenE:Entry Tryz.prog:=.val 163 _ Tryz.func163 (by decide) rfl true 0 betweenF fun vs v new e=>by
 unfold betweenF at e
 split at e
 ·simp only [Option.some.injEq,Prod.mk.injEq,Bool.and_eq_true] at e
  obtain ⟨rfl,rfl,h1,h2⟩:=e
  obtain ⟨m,hm,y,rfl,rfl,hy,hN⟩:=leafOK_iff h2
  have h:=okT_iff.1 h1
  exact FnTr.conv (between_fn (t:=treeOf _) hm hy hN fun k hk=>(h k hk).2.1) ⟨VE.tree h1,VE.refl _,VE.refl _,VE.refl _,trivial⟩ trivial (VE.refl _) trivial
 ·cases e
def uT (l:List (Nat×Bool)):Nat→Option Bool:=fun i=>(l.find? fun p=>p.1==i).map (·.2)
noncomputable def upC (l:List (Nat×Bool)):Ctr:=mk (P:=Tryz.prog) [sortedE,belowE,betweenE] [] (uT l)
theorem upC_ok (l:List (Nat×Bool)):CtrSound Tryz.prog (upC l):=mk_sound _ InlOK.nil _ _
noncomputable def upB:Code:=bodyOf Tryz.f116
noncomputable def upS (N:Nat) (t:Nat→Nod) (x n b j:Int) (un:List Int):St:=⟨slotsOf 77 [(0,.rol false 99 N (tng t)),(1,.int .i64 x),(2,.int .i64 n),(8,.int .i64 (firstV x)),(9,.int .i64 (lastV x)),(10,.int .i64 b),(39,.ro false .i64 un),(40,.int .i64 un.length),(41,.int .i64 j)],[],true⟩
noncomputable def upF (b:Bool):St:=⟨slotsOf 77 [(6,.bool b)],[],true⟩
theorem up_n (N:Nat) (t:Nat→Nod) (x n:Int):(callS Tryz.prog (upC [(19,true),(24,true),(30,true)]) 60 Tryz.f116 [.rol false 99 N (tng t),.int .i64 x,.int .i64 n] []).map (fun x=>(x.1,x.2.2))=some (.bool false,andT (andT (andT true (inB x N)) (true&&(decide (x.toNat<N)&&true))) ((t x.toNat).name != 0)):=by kernel_rfl
theorem up_s (N:Nat) (t:Nat→Nod) (x n:Int):(callS Tryz.prog (upC [(19,false),(24,true),(30,true)]) 60 Tryz.f116 [.rol false 99 N (tng t),.int .i64 x,.int .i64 n] []).map (fun x=>(x.1,x.2.2))=some (.bool false,andT (andT (andT (andT (andT true (inB x N)) (true&&(decide (x.toNat<N)&&true))) !(t x.toNat).name != 0) (decide ((t x.toNat).sign.length=32))) !decide ((t x.toNat).sign=List.replicate 32 0)):=by kernel_rfl
theorem up_u (N:Nat) (t:Nat→Nod) (x n:Int):(callS Tryz.prog (upC [(19,false),(24,false),(30,true)]) 60 Tryz.f116 [.rol false 99 N (tng t),.int .i64 x,.int .i64 n] []).map (fun x=>(x.1,x.2.2))=some (.bool false,andT (andT (andT (andT (andT (andT (andT true (inB x N)) (true&&(decide (x.toNat<N)&&true))) !(t x.toNat).name != 0) (decide ((t x.toNat).sign.length=32))) !!decide ((t x.toNat).sign=List.replicate 32 0)) (andT true (decide ((t x.toNat).un.length≤274877906944)))) !sortedB (t x.toNat).un):=by kernel_rfl
theorem up_head (N:Nat) (t:Nat→Nod) (x n:Int):resX (cutR [0,1,2,8,9,10,39,40,41] 0 ((execL Tryz.prog (upC [(19,false),(24,false),(30,false)]) 60 0 7 (atoms upB) ⟨slots0 Tryz.f116.ntmps [.rol false 99 N (tng t),.int .i64 x,.int .i64 n],[],true⟩).map fun s=>(Exit.normal,s)))=some (.normal,(upS N t x n (-1) 0 (t x.toNat).un).t,[]):=by kernel_rfl
theorem up_head' (N:Nat) (t:Nat→Nod) (x n:Int):obX (cutR [0,1,2,8,9,10,39,40,41] 0 ((execL Tryz.prog (upC [(19,false),(24,false),(30,false)]) 60 0 7 (atoms upB) ⟨slots0 Tryz.f116.ntmps [.rol false 99 N (tng t),.int .i64 x,.int .i64 n],[],true⟩).map fun s=>(Exit.normal,s)))=(andT (andT (andT (andT (andT (andT (andT (andT true (inB x N)) (true&&(decide (x.toNat<N)&&true))) !(t x.toNat).name != 0) (decide ((t x.toNat).sign.length=32))) !!decide ((t x.toNat).sign=List.replicate 32 0)) (andT true (decide ((t x.toNat).un.length≤274877906944)))) !!sortedB (t x.toNat).un) (andT true (nodeB x n))):=by kernel_rfl
theorem up_one (N:Nat) (t:Nat→Nod) (x n b j:Int) (un:List Int):resX (cutR [0,1,2,8,9,10,39,40,41] 0 (exec Tryz.prog (upC [(42,true),(47,false),(51,false),(56,false),(65,false),(73,false)]) 60 0 (inner (inner (nthC 7 upB))) (upS N t x n b j un)))=some (.normal,(upS N t x n (un.getD j.toNat 0) (IntKind.i64.wrap (j+1)) un).t,[]):=by kernel_rfl
theorem up_one' (N:Nat) (t:Nat→Nod) (x n b j:Int) (un:List Int):obX (cutR [0,1,2,8,9,10,39,40,41] 0 (exec Tryz.prog (upC [(42,true),(47,false),(51,false),(56,false),(65,false),(73,false)]) 60 0 (inner (inner (nthC 7 upB))) (upS N t x n b j un)))=(andT (andT (andT (andT (andT (andT (andT (andT (andT (andT (andT true (decide (j<((un.length:Nat):Int)))) (inB j un.length)) (decide (j.toNat<un.length))) !decide (un.getD j.toNat 0≤b)) !decide (un.getD j.toNat 0<firstV x)) !decide (un.getD j.toNat 0>lastV x)) (inB (IntKind.i64.wrap (2*un.getD j.toNat 0)) N)) (true&&(decide ((IntKind.i64.wrap (2*un.getD j.toNat 0)).toNat<N)&&true))) !!(t (IntKind.i64.wrap (2*un.getD j.toNat 0)).toNat).1) (andT true ((okT N fun i=>coolL (tng t i))&&leafOK N (un.getD j.toNat 0) n))) !!btwB (treeOf fun i=>coolL (tng t i)) x (un.getD j.toNat 0).toNat n.toNat):=by kernel_rfl
theorem up_a (N:Nat) (t:Nat→Nod) (x n b j:Int) (un:List Int):resX (cutR [6] 0 (exec Tryz.prog (upC [(42,true),(47,true),(51,false),(56,false),(65,false),(73,false)]) 60 0 (inner (inner (nthC 7 upB))) (upS N t x n b j un)))=some (.ret,(upF false).t,[]):=by kernel_rfl
theorem up_a' (N:Nat) (t:Nat→Nod) (x n b j:Int) (un:List Int):obX (cutR [6] 0 (exec Tryz.prog (upC [(42,true),(47,true),(51,false),(56,false),(65,false),(73,false)]) 60 0 (inner (inner (nthC 7 upB))) (upS N t x n b j un)))=(andT (andT (andT (andT true (decide (j<((un.length:Nat):Int)))) (inB j un.length)) (decide (j.toNat<un.length))) (decide (un.getD j.toNat 0≤b))):=by kernel_rfl
theorem up_b (N:Nat) (t:Nat→Nod) (x n b j:Int) (un:List Int):resX (cutR [6] 0 (exec Tryz.prog (upC [(42,true),(47,false),(51,true),(56,false),(65,false),(73,false)]) 60 0 (inner (inner (nthC 7 upB))) (upS N t x n b j un)))=some (.ret,(upF false).t,[]):=by kernel_rfl
theorem up_b' (N:Nat) (t:Nat→Nod) (x n b j:Int) (un:List Int):obX (cutR [6] 0 (exec Tryz.prog (upC [(42,true),(47,false),(51,true),(56,false),(65,false),(73,false)]) 60 0 (inner (inner (nthC 7 upB))) (upS N t x n b j un)))=(andT (andT (andT (andT (andT true (decide (j<((un.length:Nat):Int)))) (inB j un.length)) (decide (j.toNat<un.length))) !decide (un.getD j.toNat 0≤b)) (decide (un.getD j.toNat 0<firstV x))):=by kernel_rfl
theorem up_c (N:Nat) (t:Nat→Nod) (x n b j:Int) (un:List Int):resX (cutR [6] 0 (exec Tryz.prog (upC [(42,true),(47,false),(51,false),(56,true),(65,false),(73,false)]) 60 0 (inner (inner (nthC 7 upB))) (upS N t x n b j un)))=some (.ret,(upF false).t,[]):=by kernel_rfl
theorem up_c' (N:Nat) (t:Nat→Nod) (x n b j:Int) (un:List Int):obX (cutR [6] 0 (exec Tryz.prog (upC [(42,true),(47,false),(51,false),(56,true),(65,false),(73,false)]) 60 0 (inner (inner (nthC 7 upB))) (upS N t x n b j un)))=(andT (andT (andT (andT (andT (andT true (decide (j<((un.length:Nat):Int)))) (inB j un.length)) (decide (j.toNat<un.length))) !decide (un.getD j.toNat 0≤b)) !decide (un.getD j.toNat 0<firstV x)) (decide (un.getD j.toNat 0>lastV x))):=by kernel_rfl
theorem up_d (N:Nat) (t:Nat→Nod) (x n b j:Int) (un:List Int):resX (cutR [6] 0 (exec Tryz.prog (upC [(42,true),(47,false),(51,false),(56,false),(65,true),(73,false)]) 60 0 (inner (inner (nthC 7 upB))) (upS N t x n b j un)))=some (.ret,(upF false).t,[]):=by kernel_rfl
theorem up_d' (N:Nat) (t:Nat→Nod) (x n b j:Int) (un:List Int):obX (cutR [6] 0 (exec Tryz.prog (upC [(42,true),(47,false),(51,false),(56,false),(65,true),(73,false)]) 60 0 (inner (inner (nthC 7 upB))) (upS N t x n b j un)))=(andT (andT (andT (andT (andT (andT (andT (andT (andT true (decide (j<((un.length:Nat):Int)))) (inB j un.length)) (decide (j.toNat<un.length))) !decide (un.getD j.toNat 0≤b)) !decide (un.getD j.toNat 0<firstV x)) !decide (un.getD j.toNat 0>lastV x)) (inB (IntKind.i64.wrap (2*un.getD j.toNat 0)) N)) (true&&(decide ((IntKind.i64.wrap (2*un.getD j.toNat 0)).toNat<N)&&true))) !(t (IntKind.i64.wrap (2*un.getD j.toNat 0)).toNat).1):=by kernel_rfl
theorem up_e (N:Nat) (t:Nat→Nod) (x n b j:Int) (un:List Int):resX (cutR [6] 0 (exec Tryz.prog (upC [(42,true),(47,false),(51,false),(56,false),(65,false),(73,true)]) 60 0 (inner (inner (nthC 7 upB))) (upS N t x n b j un)))=some (.ret,(upF false).t,[]):=by kernel_rfl
theorem up_e' (N:Nat) (t:Nat→Nod) (x n b j:Int) (un:List Int):obX (cutR [6] 0 (exec Tryz.prog (upC [(42,true),(47,false),(51,false),(56,false),(65,false),(73,true)]) 60 0 (inner (inner (nthC 7 upB))) (upS N t x n b j un)))=(andT (andT (andT (andT (andT (andT (andT (andT (andT (andT (andT true (decide (j<((un.length:Nat):Int)))) (inB j un.length)) (decide (j.toNat<un.length))) !decide (un.getD j.toNat 0≤b)) !decide (un.getD j.toNat 0<firstV x)) !decide (un.getD j.toNat 0>lastV x)) (inB (IntKind.i64.wrap (2*un.getD j.toNat 0)) N)) (true&&(decide ((IntKind.i64.wrap (2*un.getD j.toNat 0)).toNat<N)&&true))) !!(t (IntKind.i64.wrap (2*un.getD j.toNat 0)).toNat).1) (andT true ((okT N fun i=>coolL (tng t i))&&leafOK N (un.getD j.toNat 0) n))) !btwB (treeOf fun i=>coolL (tng t i)) x (un.getD j.toNat 0).toNat n.toNat):=by kernel_rfl
theorem up_end (N:Nat) (t:Nat→Nod) (x n b j:Int) (un:List Int):resX (cutR [] 0 (exec Tryz.prog (upC [(42,false),(47,false),(51,false),(56,false),(65,false),(73,true)]) 60 0 (inner (inner (nthC 7 upB))) (upS N t x n b j un)))=some (.exit 0,slotsOf 77 [],[]):=by kernel_rfl
theorem up_end' (N:Nat) (t:Nat→Nod) (x n b j:Int) (un:List Int):obX (cutR [] 0 (exec Tryz.prog (upC [(42,false),(47,false),(51,false),(56,false),(65,false),(73,true)]) 60 0 (inner (inner (nthC 7 upB))) (upS N t x n b j un)))=(andT true !decide (j<((un.length:Nat):Int))):=by kernel_rfl
theorem below_ok0:(sizes.all fun n=>(List.range (2*n-1)).all fun x=>decide (0≤firstV (x:Nat))&&decide (lastV (x:Nat)<n))=true:=by decide+kernel
theorem below_ok {x:Int} {n:Nat} (h:nodeB x n=true):0≤firstV x∧lastV x<n:=by
 obtain ⟨m,hm,y,h1,rfl,h2⟩:=nodeB_iff h
 have h:=List.all_eq_true.1 (List.all_eq_true.1 below_ok0 m hm) y (List.mem_range.2 h2)
 simp only [Bool.and_eq_true,decide_eq_true_eq] at h
 exact ⟨h.1,by omega⟩
def bef (un:List Int):Nat→Int
 |0=>-1
 |k+1=>un.getD k 0
def upJ (t:Nat→Nod) (x:Int) (n:Nat) (un:List Int) (j:Nat):Bool:=!decide (un.getD j 0≤(bef un j))&&!decide (un.getD j 0<firstV x)&&!decide (un.getD j 0>lastV x)&&(t (2*un.getD j 0).toNat).used&&btwB t x (un.getD j 0).toNat n
def upperB (t:Nat→Nod) (x:Int) (n:Nat):Bool:=!((t x.toNat).name != 0)&&decide ((t x.toNat).sign=List.replicate 32 0)&&sortedB (t x.toNat).un&&(List.range (t x.toNat).un.length).all (upJ t x n (t x.toNat).un)
section
variable {N:Nat} {t:Nat→Nod} {x:Int} {n:Nat}
theorem upper_loop (hT:TOK N t) (hn:n∈sizes) (hN:N=2*n-1) (hx:nodeB x n=true) (h1:((t x.toNat).name != 0)=false) (h2:decide ((t x.toNat).sign=List.replicate 32 0)=true) (h3:sortedB (t x.toNat).un=true):
  FnTr Tryz.prog 116 [.rol false 99 N (tng t),.int .i64 x,.int .i64 n] [] (.bool ((List.range (t x.toNat).un.length).all (upJ t x n (t x.toNat).un))) []:=by
 obtain ⟨g1,g2⟩:=nodeB_lt hx
 obtain ⟨b1,b2⟩:=below_ok hx
 have hs:=sizes_le hn
 have hlt:x.toNat<N:=by omega
 have hlen:=hT.un _ hlt
 generalize hun:(t x.toNat).un=un at*
 have key:=FnTr.scan (P:=Tryz.prog) (args:=[.rol false 99 N (tng t),.int .i64 x,.int .i64 n]) (h:=[]) (h':=[]) Tryz.func116 rfl 7 0 (fun j:Nat=>upS N t x n (bef un j) j un) (upJ t x n un) un.length
  (fun y s' g=>TrL.itemsX (upC_ok [(19,false),(24,false),(30,false)]) 60 7 _ 0 (by simp) (s1:=upS N t x n (-1) (0:Nat) un) _ (by have:=up_head N t x n;rw [hun] at this;exact this) (up_head' N t x n)
   (by rw [inBt g1 (by omega),decide_eq_true hlt,h1,decide_eq_true (hT.sign _ hlt),h2,hun,decide_eq_true hlen,h3,hx];rfl) (by decide) rfl g) (by decide) (by kernel_rfl)
  (fun j hj hb _=>?_) (fun i=>upF false) (fun i=>[.bool false]) (fun j hj hb _=>⟨?_,rfl,rfl⟩) (sE:=⟨slotsOf 77 [],[],true⟩) (sE':=upF true) (vE:=[.bool true]) (xE:=.ret) (fun _=>?_) (fun _=>⟨?_,.inl rfl,rfl,rfl⟩)
 ·rw [oneOf_scan (g:=SV.bool) (vF:=fun _:Nat=>false) (vE:=true)] at key
  have hv:scanV (upJ t x n un) un.length (fun _=>false) true=(List.range un.length).all (upJ t x n un):=by
   unfold scanV;rw [←firstN_all];cases firstN _ _<;>rfl
  rw [hv] at key;exact key
 ·unfold upJ at hb
  simp only [Bool.and_eq_true,Bool.not_eq_true',decide_eq_false_iff_not] at hb
  obtain ⟨⟨⟨⟨c1,c2⟩,c3⟩,c4⟩,c5⟩:=hb
  have e:=up_one N t x n (bef un j) j un
  have e':=up_one' N t x n (bef un j) j un
  rw [wrapS (by omega),Int.toNat_natCast] at e
  refine Tr.cutX (upC_ok [(42,true),(47,false),(51,false),(56,false),(65,false),(73,false)]) 60 _ 0 (Nat.le_refl _) (s':=upS N t x n (un.getD j 0) ((j+1:Nat):Int) un) _ e e' ?_
  rw [Int.toNat_natCast,wrapI (by omega) (by omega),ltN hj,inBN hj,decide_eq_true hj,decide_eq_false c1,decide_eq_false c2,decide_eq_false c3,inBt (by omega) (by omega),decide_eq_true (show (2*un.getD j 0).toNat<N by omega),
   show (t (2*un.getD j 0).toNat).1=true from c4,show okT N (fun i=>coolL (tng t i))=true from okT_tng hT,Int.toNat_natCast,show btwB (treeOf fun i=>coolL (tng t i)) x (un.getD j 0).toNat n=true from c5]
  rw [show leafOK N (un.getD j 0) n=true from by
   have:=leafOK_mk (N:=N) (m:=n) (y:=(un.getD j 0).toNat) hn (by omega) hN
   rwa [Int.toNat_of_nonneg (by omega)] at this]
  rfl
 ·have hw:∀(h0:¬un.getD j 0<firstV x) (h1:¬un.getD j 0>lastV x),IntKind.i64.wrap (2*un.getD j 0)=2*un.getD j 0:=fun _ _=>wrapI (by omega) (by omega)
  by_cases c1:un.getD j 0≤(bef un j)
  ·exact Tr.cutX (upC_ok [(42,true),(47,true),(51,false),(56,false),(65,false),(73,false)]) 60 _ 0 (Nat.le_refl _) (s':=upF false) _ (up_a N t x n _ j un) (up_a' N t x n _ j un) (by
    rw [Int.toNat_natCast,ltN hj,inBN hj,decide_eq_true hj,decide_eq_true c1];rfl)
  ·by_cases c2:un.getD j 0<firstV x
   ·exact Tr.cutX (upC_ok [(42,true),(47,false),(51,true),(56,false),(65,false),(73,false)]) 60 _ 0 (Nat.le_refl _) (s':=upF false) _ (up_b N t x n _ j un) (up_b' N t x n _ j un) (by
     rw [Int.toNat_natCast,ltN hj,inBN hj,decide_eq_true hj,decide_eq_false c1,decide_eq_true c2];rfl)
   ·by_cases c3:un.getD j 0>lastV x
    ·exact Tr.cutX (upC_ok [(42,true),(47,false),(51,false),(56,true),(65,false),(73,false)]) 60 _ 0 (Nat.le_refl _) (s':=upF false) _ (up_c N t x n _ j un) (up_c' N t x n _ j un) (by
      rw [Int.toNat_natCast,ltN hj,inBN hj,decide_eq_true hj,decide_eq_false c1,decide_eq_false c2,decide_eq_true c3];rfl)
    ·cases c4:(t (2*un.getD j 0).toNat).used with
     |false=>
      exact Tr.cutX (upC_ok [(42,true),(47,false),(51,false),(56,false),(65,true),(73,false)]) 60 _ 0 (Nat.le_refl _) (s':=upF false) _ (up_d N t x n _ j un) (up_d' N t x n _ j un) (by
       rw [Int.toNat_natCast,hw c2 c3,ltN hj,inBN hj,decide_eq_true hj,decide_eq_false c1,decide_eq_false c2,decide_eq_false c3,inBt (by omega) (by omega),decide_eq_true (show (2*un.getD j 0).toNat<N by omega),show (t (2*un.getD j 0).toNat).1=false from c4];rfl)
     |true=>
      unfold upJ at hb
      rw [decide_eq_false c1,decide_eq_false c2,decide_eq_false c3,c4] at hb
      have c5:btwB t x (un.getD j 0).toNat n=false:=by simpa using hb
      refine Tr.cutX (upC_ok [(42,true),(47,false),(51,false),(56,false),(65,false),(73,true)]) 60 _ 0 (Nat.le_refl _) (s':=upF false) _ (up_e N t x n _ j un) (up_e' N t x n _ j un) ?_
      rw [Int.toNat_natCast,hw c2 c3,ltN hj,inBN hj,decide_eq_true hj,decide_eq_false c1,decide_eq_false c2,decide_eq_false c3,inBt (by omega) (by omega),decide_eq_true (show (2*un.getD j 0).toNat<N by omega),show (t (2*un.getD j 0).toNat).1=true from c4,
       show okT N (fun i=>coolL (tng t i))=true from okT_tng hT,Int.toNat_natCast,show btwB (treeOf fun i=>coolL (tng t i)) x (un.getD j 0).toNat n=false from c5]
      rw [show leafOK N (un.getD j 0) n=true from by
       have:=leafOK_mk (N:=N) (m:=n) (y:=(un.getD j 0).toNat) hn (by omega) hN
       rwa [Int.toNat_of_nonneg (by omega)] at this]
      rfl
 ·exact Tr.cutX (upC_ok [(42,false),(47,false),(51,false),(56,false),(65,false),(73,true)]) 60 _ 0 (Nat.le_refl _) (s':=⟨slotsOf 77 [],[],true⟩) _ (up_end N t x n _ _ un) (up_end' N t x n _ _ un) (by rw [nltN (Nat.le_refl _)];rfl)
 ·exact TrL.rest (upC_ok []) 60 (by kernel_rfl) rfl
theorem upper_fn (hT:TOK N t) (hn:n∈sizes) (hN:N=2*n-1) (hx:nodeB x n=true):FnTr Tryz.prog 116 [.rol false 99 N (tng t),.int .i64 x,.int .i64 n] [] (.bool (upperB t x n)) []:=by
 obtain ⟨g1,g2⟩:=nodeB_lt hx
 have hlt:x.toNat<N:=by omega
 have hb:inB x N=true:=inBt g1 (by omega)
 unfold upperB
 cases h1:((t x.toNat).name != 0) with
 |true=>exact call0 (upC_ok [(19,true),(24,true),(30,true)]) 60 Tryz.func116 (up_n N t x n) (by rw [hb,decide_eq_true hlt,h1];rfl) rfl
 |false=>
  cases h2:decide ((t x.toNat).sign=List.replicate 32 0) with
  |false=>exact call0 (upC_ok [(19,false),(24,true),(30,true)]) 60 Tryz.func116 (up_s N t x n) (by rw [hb,decide_eq_true hlt,h1,h2,decide_eq_true (hT.sign _ hlt)];rfl) rfl
  |true=>
   cases h3:sortedB (t x.toNat).un with
   |false=>exact call0 (upC_ok [(19,false),(24,false),(30,true)]) 60 Tryz.func116 (up_u N t x n) (by rw [hb,decide_eq_true hlt,h1,h2,decide_eq_true (hT.sign _ hlt),decide_eq_true (hT.un _ hlt),h3];rfl) rfl
   |true=>exact upper_loop hT hn hN hx h1 h2 h3
end
end Go.Proofs.YthlnlcijnoadcaaGreatDoor.Tr
