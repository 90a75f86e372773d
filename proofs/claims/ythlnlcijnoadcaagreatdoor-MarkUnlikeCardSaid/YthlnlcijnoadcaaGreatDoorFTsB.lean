/- This file holds the texts TsA, TsB, a section each. No conditions beyond those in the theorems. -/
import Derived.Test.YthlnlcijnoadcaaGreatDoorFTrZ
set_option linter.all false
set_option maxRecDepth 100000
section
namespace Go.Proofs.YthlnlcijnoadcaaGreatDoor.Tr
open Go Go.Sy
def runI:Option (SV×List Blk×Bool)→Option (Int×Bool)
 |some (.int .i64 a,[],p)=>some (a,p)
 |_=>none
theorem runI_eq {r:Option (SV×List Blk×Bool)} {a:Int} {p:Bool} (h:runI r=some (a,p)):r=some (.int .i64 a,[],p):=by
 unfold runI at h
 split at h
 ·simp only [Option.some.injEq,Prod.mk.injEq] at h
  obtain ⟨rfl,rfl⟩:=h
  rfl
 ·cases h
def runII:Option (SV×List Blk×Bool)→Option (Int×Int×Bool)
 |some (.tup [.int .i64 a,.int .i64 b],[],p)=>some (a,b,p)
 |_=>none
theorem runII_eq {r:Option (SV×List Blk×Bool)} {a b:Int} {p:Bool} (h:runII r=some (a,b,p)):r=some (.tup [.int .i64 a,.int .i64 b],[],p):=by
 unfold runII at h
 split at h
 ·simp only [Option.some.injEq,Prod.mk.injEq] at h
  obtain ⟨rfl,rfl,rfl⟩:=h
  rfl
 ·cases h
theorem rLeaves_all:((List.range 72).all fun N=>decide (runI (callS Tryz.prog (mk (P:=Tryz.prog) [] []) 60 Tryz.f44 [.int .i64 ((N:Nat):Int)] [])=some (leavesV ((N:Nat):Int),true)))=true:=by kernel_rfl
theorem rLeaves_fn {N:Nat} (h:N<72):FnTr Tryz.prog 44 [.int .i64 ((N:Nat):Int)] [] (.int .i64 (leavesV ((N:Nat):Int))) []:=
 FnTr.of_callS noC_ok Tryz.func44 (runI_eq (of_decide_eq_true (List.all_eq_true.1 rLeaves_all N (List.mem_range.2 h))))
noncomputable def rlInl:List (FuncId×Func):=[(84,Tryz.f84)]
theorem rlInl_ok:InlOK Tryz.prog rlInl:=InlOK.cons Tryz.func84 (by decide) InlOK.nil
noncomputable def rlC:Ctr:=mk (P:=Tryz.prog) [] rlInl fun _=>none
theorem rlC_ok:CtrSound Tryz.prog rlC:=mk_sound _ rlInl_ok _ _
theorem rChildren_all:((List.range 64).all fun x=>decide (runII (callS Tryz.prog rlC 60 Tryz.f41 [.int .i64 ((x:Nat):Int)] [])=some (leftV ((x:Nat):Int),rightV ((x:Nat):Int),true)))=true:=by kernel_rfl
theorem rChildren_fn {x:Nat} (h:x<64):FnTr Tryz.prog 41 [.int .i64 ((x:Nat):Int)] [] (.tup [.int .i64 (leftV ((x:Nat):Int)),.int .i64 (rightV ((x:Nat):Int))]) []:=
 FnTr.of_callS rlC_ok Tryz.func41 (runII_eq (of_decide_eq_true (List.all_eq_true.1 rChildren_all x (List.mem_range.2 h))))
end Go.Proofs.YthlnlcijnoadcaaGreatDoor.Tr
end
section
namespace Go.Proofs.YthlnlcijnoadcaaGreatDoor.Tr
open Go Go.Sy
def sizeB (n:Int):Bool:=sizes.any fun m=>decide (n=m)
noncomputable def soundE:Entry Tryz.prog:=.val 132 _ Tryz.func132 (by decide) rfl false 0 (fun vs=>match vs with
 | [.int .i64 n]=>some (.bool true,[],sizeB n)
 |_=>none) fun vs v new e=>by
 split at e
 ·simp only [Option.some.injEq,Prod.mk.injEq] at e
  obtain ⟨rfl,rfl,h1⟩:=e
  obtain ⟨m,hm,q⟩:=List.any_eq_true.1 h1
  obtain rfl:=of_decide_eq_true q
  simp only [sizes,List.mem_cons,List.not_mem_nil,or_false] at hm
  rcases hm with rfl|rfl|rfl|rfl|rfl|rfl<;>exact FnTr.of_callS noC_ok Tryz.func132 (n:=60) (by kernel_rfl)
 ·cases e
noncomputable def sdC (l:List (Nat×Bool)):Ctr:=mk (P:=Tryz.prog) [soundE] [] (uT l)
theorem sdC_ok (l:List (Nat×Bool)):CtrSound Tryz.prog (sdC l):=mk_sound _ InlOK.nil _ _
theorem nd_a (x n:Int):(callS Tryz.prog (sdC [(9,false)]) 60 Tryz.f85 [.int .i64 x,.int .i64 n] []).map (fun x=>(x.1,x.2.2))=some (.bool false,andT (andT true (andT true (sizeB n))) !decide (x≥0)):=by kernel_rfl
theorem nd_b (x n:Int):(callS Tryz.prog (sdC [(9,true),(16,false)]) 60 Tryz.f85 [.int .i64 x,.int .i64 n] []).map (fun x=>(x.1,x.2.2))=some (.bool false,andT (andT (andT true (andT true (sizeB n))) (decide (x≥0))) !decide (x≤IntKind.i64.wrap (IntKind.i64.wrap (2*n)-2))):=by kernel_rfl
theorem nd_c (x n:Int):(callS Tryz.prog (sdC [(9,true),(16,true)]) 60 Tryz.f85 [.int .i64 x,.int .i64 n] []).map (fun x=>(x.1,x.2.2))=some (.bool true,andT (andT (andT true (andT true (sizeB n))) (decide (x≥0))) (decide (x≤IntKind.i64.wrap (IntKind.i64.wrap (2*n)-2)))):=by kernel_rfl
theorem node_of {x:Int} {n:Nat} (hn:n∈sizes):nodeB x n=(decide (x≥0)&&decide (x≤2*(n:Int)-2)):=by
 cases h:(decide (x≥0)&&decide (x≤2*(n:Int)-2)) with
 |true=>
  simp only [Bool.and_eq_true,decide_eq_true_eq] at h
  exact List.any_eq_true.2 ⟨n,hn,by simp only [Bool.and_eq_true,decide_eq_true_eq];exact ⟨⟨trivial,h.1⟩,h.2⟩⟩
 |false=>
  cases g:nodeB x n with
  |false=>rfl
  |true=>
   obtain ⟨m,_,y,h1,rfl,h2⟩:=nodeB_iff g
   rw [Bool.and_eq_false_iff,decide_eq_false_iff_not,decide_eq_false_iff_not] at h
   omega
theorem rNode_fn {x:Int} {n:Nat} (hn:n∈sizes):FnTr Tryz.prog 85 [.int .i64 x,.int .i64 ((n:Nat):Int)] [] (.bool (nodeB x n)) []:=by
 rw [node_of hn]
 have hs:=sizes_le hn
 have hz:sizeB (n:Int)=true:=List.any_eq_true.2 ⟨n,hn,decide_eq_true rfl⟩
 have hw:IntKind.i64.wrap (IntKind.i64.wrap (2*(n:Int))-2)=2*(n:Int)-2:=by
  rw [show IntKind.i64.wrap (2*(n:Int))=2*(n:Int) from wrapI (by omega) (by omega)]
  exact wrapI (by omega) (by omega)
 have e2:=nd_b x n
 have e3:=nd_c x n
 rw [hw] at e2 e3
 cases h1:decide (x≥0) with
 |false=>exact call0 (sdC_ok _) 60 Tryz.func85 (nd_a x n) (by rw [h1,hz];rfl) rfl
 |true=>
  cases h2:decide (x≤2*(n:Int)-2) with
  |false=>exact call0 (sdC_ok _) 60 Tryz.func85 e2 (by rw [h1,h2,hz];rfl) rfl
  |true=>exact call0 (sdC_ok _) 60 Tryz.func85 e3 (by rw [h1,h2,hz];rfl) rfl
noncomputable def rNodeE (b:Bool):Entry Tryz.prog:=.val 85 _ Tryz.func85 (by decide) rfl false 0 (fun vs=>match vs with
 | [.int .i64 x,.int .i64 n]=>some (.bool b,[],sizeB n&&(nodeB x n==b))
 |_=>none) fun vs v new e=>by
 split at e
 ·simp only [Option.some.injEq,Prod.mk.injEq,Bool.and_eq_true,beq_iff_eq] at e
  obtain ⟨rfl,rfl,h1,h3⟩:=e
  obtain ⟨m,hm,q⟩:=List.any_eq_true.1 h1
  obtain rfl:=of_decide_eq_true q
  rw [←h3]
  exact rNode_fn hm
 ·cases e
noncomputable def rChildrenE:Entry Tryz.prog:=.val 41 _ Tryz.func41 (by decide) rfl false 0 (fun vs=>match vs with
 | [.int .i64 x]=>some (.tup [.int .i64 (leftV x),.int .i64 (rightV x)],[],decide (0≤x)&&decide (x<64))
 |_=>none) fun vs v new e=>by
 split at e
 ·simp only [Option.some.injEq,Prod.mk.injEq,Bool.and_eq_true,decide_eq_true_eq] at e
  obtain ⟨rfl,rfl,h1,h2⟩:=e
  obtain ⟨y,rfl⟩:=Int.eq_ofNat_of_zero_le h1
  exact rChildren_fn (by omega)
 ·cases e
noncomputable def prC (l:List (Nat×Bool)):Ctr:=mk (P:=Tryz.prog) [rNodeE true,rChildrenE] [] (uT l)
theorem prC_ok (l:List (Nat×Bool)):CtrSound Tryz.prog (prC l):=mk_sound _ InlOK.nil _ _
noncomputable def prB:Code:=bodyOf Tryz.f113
noncomputable def prS (x n p:Int):St:=⟨slotsOf 33 [(0,.int .i64 x),(1,.int .i64 n),(5,.int .i64 p)],[],true⟩
theorem pr_head (x n:Int):resX (cutR [0,1,5] 0 ((execL Tryz.prog (prC []) 60 0 4 (atoms prB) ⟨slots0 Tryz.f113.ntmps [.int .i64 x,.int .i64 n],[],true⟩).map fun s=>(Exit.normal,s)))=some (.normal,(prS x n 0).t,[]):=by kernel_rfl
theorem pr_head' (x n:Int):obX (cutR [0,1,5] 0 ((execL Tryz.prog (prC []) 60 0 4 (atoms prB) ⟨slots0 Tryz.f113.ntmps [.int .i64 x,.int .i64 n],[],true⟩).map fun s=>(Exit.normal,s)))=(andT true (andT true (sizeB n&&nodeB x n==true))):=by kernel_rfl
theorem pr_go (x n p:Int):resX (cutR [0,1,5] 0 (exec Tryz.prog (prC [(16,true),(26,false),(30,false)]) 60 0 (inner (inner (nthC 4 prB))) (prS x n p)))=some (.normal,(prS x n (IntKind.i64.wrap (p+1))).t,[]):=by kernel_rfl
theorem pr_go' (x n p:Int):obX (cutR [0,1,5] 0 (exec Tryz.prog (prC [(16,true),(26,false),(30,false)]) 60 0 (inner (inner (nthC 4 prB))) (prS x n p)))=(andT (andT (andT (andT true (decide (p≤IntKind.i64.wrap (IntKind.i64.wrap (2*n)-2)))) (andT true (decide (0≤p)&&decide (p<64)))) !leftV p==x) !rightV p==x):=by kernel_rfl
theorem pr_l (x n p:Int):resX (cutR [4] 0 (exec Tryz.prog (prC [(16,true),(26,true)]) 60 0 (inner (inner (nthC 4 prB))) (prS x n p)))=some (.ret,(iS 33 4 p).t,[]):=by kernel_rfl
theorem pr_l' (x n p:Int):obX (cutR [4] 0 (exec Tryz.prog (prC [(16,true),(26,true)]) 60 0 (inner (inner (nthC 4 prB))) (prS x n p)))=(andT (andT (andT true (decide (p≤IntKind.i64.wrap (IntKind.i64.wrap (2*n)-2)))) (andT true (decide (0≤p)&&decide (p<64)))) (leftV p==x)):=by kernel_rfl
theorem pr_r (x n p:Int):resX (cutR [4] 0 (exec Tryz.prog (prC [(16,true),(26,false),(30,true)]) 60 0 (inner (inner (nthC 4 prB))) (prS x n p)))=some (.ret,(iS 33 4 p).t,[]):=by kernel_rfl
theorem pr_r' (x n p:Int):obX (cutR [4] 0 (exec Tryz.prog (prC [(16,true),(26,false),(30,true)]) 60 0 (inner (inner (nthC 4 prB))) (prS x n p)))=(andT (andT (andT (andT true (decide (p≤IntKind.i64.wrap (IntKind.i64.wrap (2*n)-2)))) (andT true (decide (0≤p)&&decide (p<64)))) !leftV p==x) (rightV p==x)):=by kernel_rfl
theorem pr_end (x n p:Int):resX (cutR [] 0 (exec Tryz.prog (prC [(16,false)]) 60 0 (inner (inner (nthC 4 prB))) (prS x n p)))=some (.exit 0,slotsOf 33 [],[]):=by kernel_rfl
theorem pr_end' (x n p:Int):obX (cutR [] 0 (exec Tryz.prog (prC [(16,false)]) 60 0 (inner (inner (nthC 4 prB))) (prS x n p)))=(andT true !decide (p≤IntKind.i64.wrap (IntKind.i64.wrap (2*n)-2))):=by kernel_rfl
theorem par_all:(sizes.all fun n=>(List.range (2*n-1)).all fun x=>decide (scanV (fun p=>!(leftV ((p:Nat):Int)==((x:Nat):Int))&&!(rightV ((p:Nat):Int)==((x:Nat):Int))) (2*n-1) (fun p=>((p:Nat):Int)) (-1)=parV ((x:Nat):Int) n))=true:=by decide+kernel
theorem rParent_fn {x:Int} {n:Nat} (hx:nodeB x n=true):FnTr Tryz.prog 113 [.int .i64 x,.int .i64 ((n:Nat):Int)] [] (.int .i64 (parV x n)) []:=by
 obtain ⟨m,hm,y,h1,rfl,h2⟩:=nodeB_iff hx
 obtain rfl:n=m:=by omega
 have hs:=sizes_le hm
 have hz:sizeB (n:Int)=true:=List.any_eq_true.2 ⟨n,hm,decide_eq_true rfl⟩
 have hw:IntKind.i64.wrap (IntKind.i64.wrap (2*(n:Int))-2)=2*(n:Int)-2:=by
  rw [show IntKind.i64.wrap (2*(n:Int))=2*(n:Int) from wrapI (by omega) (by omega)]
  exact wrapI (by omega) (by omega)
 have hv:=of_decide_eq_true (List.all_eq_true.1 (List.all_eq_true.1 par_all n hm) y (List.mem_range.2 h2))
 rw [←hv]
 have key:=FnTr.scan (P:=Tryz.prog) (args:=[.int .i64 ((y:Nat):Int),.int .i64 ((n:Nat):Int)]) (h:=[]) (h':=[]) Tryz.func113 rfl 4 0 (fun p:Nat=>prS y n ((p:Nat):Int)) (fun p=>!(leftV ((p:Nat):Int)==((y:Nat):Int))&&!(rightV ((p:Nat):Int)==((y:Nat):Int))) (2*n-1)
  (fun x s' g=>TrL.itemsX (prC_ok []) 60 4 _ 0 (by simp) (s1:=prS y n ((0:Nat):Int)) _ (pr_head y n) (pr_head' y n) (by rw [hz,hx];rfl) (by decide) rfl g) (by decide) (by kernel_rfl)
  (fun p hp hb _=>?_) (fun i=>iS 33 4 ((i:Nat):Int)) (fun i=>[.int .i64 ((i:Nat):Int)]) (fun p hp hb _=>⟨?_,rfl,rfl⟩) (sE:=⟨slotsOf 33 [],[],true⟩) (sE':=iS 33 4 (-1)) (vE:=[.int .i64 (-1)]) (xE:=.ret) (fun _=>?_) (fun _=>⟨?_,.inl rfl,rfl,rfl⟩)
 ·rw [oneOf_scan (g:=SV.int .i64) (vF:=fun i:Nat=>((i:Nat):Int)) (vE:=-1)] at key
  exact key
 ·obtain ⟨b1,b2⟩:=Bool.and_eq_true_iff.1 hb
  have e:=pr_go y n p
  rw [wrapS (by omega)] at e
  exact Tr.cutX (prC_ok [(16,true),(26,false),(30,false)]) 60 _ 0 (Nat.le_refl _) (s':=prS y n ((p+1:Nat):Int)) _ e (pr_go' y n p) (by
   rw [hw,decide_eq_true (show (p:Int)≤2*(n:Int)-2 by omega),decide_eq_true (show (0:Int)≤(p:Int) by omega),decide_eq_true (show (p:Int)<64 by omega),b1,b2];rfl)
 ·cases b1:(leftV ((p:Nat):Int)==((y:Nat):Int)) with
  |true=>exact Tr.cutX (prC_ok [(16,true),(26,true)]) 60 _ 0 (Nat.le_refl _) (s':=iS 33 4 ((p:Nat):Int)) _ (pr_l y n p) (pr_l' y n p) (by
    rw [hw,decide_eq_true (show (p:Int)≤2*(n:Int)-2 by omega),decide_eq_true (show (0:Int)≤(p:Int) by omega),decide_eq_true (show (p:Int)<64 by omega),b1];rfl)
  |false=>
   rw [b1] at hb
   have b2:(rightV ((p:Nat):Int)==((y:Nat):Int))=true:=by simpa using hb
   exact Tr.cutX (prC_ok [(16,true),(26,false),(30,true)]) 60 _ 0 (Nat.le_refl _) (s':=iS 33 4 ((p:Nat):Int)) _ (pr_r y n p) (pr_r' y n p) (by
    rw [hw,decide_eq_true (show (p:Int)≤2*(n:Int)-2 by omega),decide_eq_true (show (0:Int)≤(p:Int) by omega),decide_eq_true (show (p:Int)<64 by omega),b1,b2];rfl)
 ·exact Tr.cutX (prC_ok [(16,false)]) 60 _ 0 (Nat.le_refl _) (s':=⟨slotsOf 33 [],[],true⟩) _ (pr_end y n _) (pr_end' y n _) (by
   rw [hw,decide_eq_false (show ¬(((2*n-1:Nat):Int))≤2*(n:Int)-2 by omega)];rfl)
 ·exact TrL.rest (prC_ok []) 60 (by kernel_rfl) rfl
end Go.Proofs.YthlnlcijnoadcaaGreatDoor.Tr
end
