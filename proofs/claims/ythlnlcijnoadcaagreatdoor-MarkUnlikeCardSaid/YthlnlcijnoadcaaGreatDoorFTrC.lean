/- This file holds the texts TrO, TrA, TrB, TrC, a section each. No conditions beyond those in the theorems. -/
import Derived.Test.YthlnlcijnoadcaaGreatDoorFSxB
import Derived.Test.YthlnlcijnoadcaaGreatDoorRows
set_option linter.all false
set_option maxRecDepth 100000
section
namespace Go.Sy
open Go
structure Nod where
 used:Bool
 name:Int
 key:List Int
 sign:List Int
 par:List Int
 un:List Int
instance:Inhabited Nod:=⟨⟨false,0,[],[],[],[]⟩⟩
def Nod.cells (n:Nod):List SV:=[.bool n.used,.int .i64 n.name,.ints .u8 32 n.key,.ints .u8 32 n.sign,.ints .u8 32 n.par,.ro false .i64 n.un]
structure Nod.OK (n:Nod):Prop where
 name:(Lit.int .i64 n.name).wf=true
 key:n.key.length=32∧∀z∈n.key,0≤z∧z<256
 sign:n.sign.length=32∧∀z∈n.sign,0≤z∧z<256
 par:n.par.length=32∧∀z∈n.par,0≤z∧z<256
 un:∀z∈n.un,(Lit.int .i64 z).wf=true
end Go.Sy
end
section
namespace Go.Proofs.YthlnlcijnoadcaaGreatDoor.Tr
open Go Go.Sy
def lfT (a b c:Bool):Nat→Option Bool:=fun i=>if i=5 then some a else if i=10 then some b else if i=15 then some c else none
noncomputable def lfC (a b c:Bool):Ctr:=mk (P:=Tryz.prog) [] [] (lfT a b c)
theorem lfC_ok (a b c:Bool):CtrSound Tryz.prog (lfC a b c):=mk_sound _ InlOK.nil _ _
abbrev nod (u:Bool) (n:Int) (k s p un:List Int):SV:=.agg [.bool u,.int .i64 n,.ints .u8 32 k,.ints .u8 32 s,.ints .u8 32 p,.ro false .i64 un]
def lfB (u:Bool) (n:Int) (un:List Int):Bool:=u&&decide (n≥0)&&decide (n≤255)&&((un.length:Int)==0)
theorem leaf_fn (u:Bool) (n:Int) (k s p un:List Int):FnTr Tryz.prog 115 [nod u n k s p un] [] (.bool (lfB u n un)) []:=by
 unfold lfB
 cases u with
 |false=>exact call0 (lfC_ok false false false) 60 Tryz.func115 (v:=.bool false) (p:=true) (by kernel_rfl) rfl rfl
 |true=>
  cases h1:decide (n≥0) with
  |false=>exact call0 (lfC_ok true false false) 60 Tryz.func115 (v:=.bool false) (p:=andT true (!decide (n≥0))) (by kernel_rfl) (by rw [h1];rfl) rfl
  |true=>
   cases h2:decide (n≤255) with
   |false=>exact call0 (lfC_ok true true false) 60 Tryz.func115 (v:=.bool false) (p:=andT (andT true (decide (n≥0))) (!decide (n≤255))) (by kernel_rfl) (by rw [h1,h2];rfl) rfl
   |true=>exact call0 (lfC_ok true true true) 60 Tryz.func115 (v:=.bool ((un.length:Int)==0)) (p:=andT (andT true (decide (n≥0))) (decide (n≤255))) (by kernel_rfl) (by rw [h1,h2];rfl) rfl
end Go.Proofs.YthlnlcijnoadcaaGreatDoor.Tr
end
section
namespace Go.Proofs.YthlnlcijnoadcaaGreatDoor.Tr
open Go Go.Sy
def lvT (a b c:Bool):Nat→Option Bool:=fun i=>if i=5 then some a else if i=9 then some b else if i=15 then some c else none
noncomputable def lvC (a b c:Bool):Ctr:=mk (P:=Tryz.prog) [] [] (lvT a b c)
theorem lvC_ok (a b c:Bool):CtrSound Tryz.prog (lvC a b c):=mk_sound _ InlOK.nil _ _
def lvX (n:Int):Bool:=andI IntKind.i64 n (IntKind.i64.wrap (n+1)) != 0
def leavesV (n:Int):Int:=bif decide (n<1)||decide (n≥64)||lvX n then 0 else IntKind.i64.wrap (IntKind.i64.wrap (n.tdiv 2)+1)
theorem leaves_fn (n:Int):FnTr Tryz.prog 91 [.int .i64 n] [] (.int .i64 (leavesV n)) []:=by
 unfold leavesV
 cases h1:decide (n<1) with
 |true=>exact call0 (lvC_ok true true true) 60 Tryz.func91 (v:=.int .i64 0) (p:=andT true (decide (n<1))) (by kernel_rfl) (by rw [h1];rfl) rfl
 |false=>
  cases h2:decide (n≥64) with
  |true=>exact call0 (lvC_ok false true true) 60 Tryz.func91 (v:=.int .i64 0) (p:=andT (andT true (!decide (n<1))) (decide (n≥64))) (by kernel_rfl) (by rw [h1,h2];rfl) rfl
  |false=>
   cases h3:lvX n with
   |true=>exact call0 (lvC_ok false false true) 60 Tryz.func91 (v:=.int .i64 0) (p:=andT (andT (andT true (!decide (n<1))) (!decide (n≥64))) (lvX n)) (by kernel_rfl) (by rw [h1,h2,h3];rfl) rfl
   |false=>exact call0 (lvC_ok false false false) 60 Tryz.func91 (v:=.int .i64 (IntKind.i64.wrap (IntKind.i64.wrap (n.tdiv 2)+1))) (p:=andT (andT (andT true (!decide (n<1))) (!decide (n≥64))) (!lvX n)) (by kernel_rfl) (by rw [h1,h2,h3];rfl) rfl
end Go.Proofs.YthlnlcijnoadcaaGreatDoor.Tr
end
section
namespace Go.Proofs.YthlnlcijnoadcaaGreatDoor.Tr
open Go Go.Sy
def lvN:Nat→Nat→Nat
 |0,_=>0
 |f+1,x=>match x%2 with
  |1=>lvN f (x/2)+1
  |_=>0
def levelV (x:Int):Int:=(lvN 7 x.toNat:Nat)
noncomputable def lvInl:List (FuncId×Func):=[(170,Tryz.f170),(215,Tryz.f215)]
theorem lvInl_ok:InlOK Tryz.prog lvInl:=InlOK.cons Tryz.func170 (by decide) (InlOK.cons Tryz.func215 (by decide) InlOK.nil)
noncomputable def lvlC:Ctr:=mk (P:=Tryz.prog) [] lvInl
theorem lvlC_ok:CtrSound Tryz.prog lvlC:=mk_sound _ lvInl_ok _ _
def isI (v:Int):Option (SV×List Blk×Bool)→Bool
 |some (.int .i64 m,_,p)=>decide (m=v)&&p
 |_=>false
theorem isI_iff {v:Int} {r:Option (SV×List Blk×Bool)} (h:isI v r=true):r.map (fun x=>(x.1,x.2.2))=some (.int .i64 v,true):=by
 unfold isI at h
 split at h
 ·simp only [Bool.and_eq_true,decide_eq_true_eq] at h
  obtain ⟨rfl,rfl⟩:=h
  rfl
 ·cases h
theorem level_all:((List.range 64).all fun x=>isI (levelV x) (callS Tryz.prog lvlC 60 Tryz.f127 [.int .i64 x] []))=true:=by kernel_rfl
theorem level_fn {x:Int} (h0:0≤x) (h1:x<64):FnTr Tryz.prog 127 [.int .i64 x] [] (.int .i64 (levelV x)) []:=by
 obtain ⟨n,rfl⟩:=Int.eq_ofNat_of_zero_le h0
 have h:=List.all_eq_true.1 level_all n (List.mem_range.2 (by omega))
 exact call0 lvlC_ok 60 Tryz.func127 (isI_iff h) rfl rfl
noncomputable def levelF:List SV→Option (SV×List Blk×Bool)
 | [.int .i64 x]=>some (.int .i64 (levelV x),[],decide (0≤x)&&decide (x<64))
 |_=>none
noncomputable def levelE:Entry Tryz.prog:=.val 127 _ Tryz.func127 (by decide) rfl false 0 levelF fun vs v new e=>by
 unfold levelF at e
 split at e
 ·simp only [Option.some.injEq,Prod.mk.injEq,Bool.and_eq_true,decide_eq_true_eq] at e
  obtain ⟨rfl,rfl,h1,h2⟩:=e
  exact level_fn h1 h2
 ·cases e
noncomputable def chC:Ctr:=mk (P:=Tryz.prog) [levelE] []
theorem chC_ok:CtrSound Tryz.prog chC:=mk_sound _ InlOK.nil _ _
def isT (v u:Int):Option (SV×List Blk×Bool)→Bool
 |some (.tup [.int .i64 m,.int .i64 n],_,p)=>decide (m=v)&&decide (n=u)&&p
 |_=>false
theorem isT_iff {v u:Int} {r:Option (SV×List Blk×Bool)} (h:isT v u r=true):r.map (fun x=>(x.1,x.2.2))=some (.tup [.int .i64 v,.int .i64 u],true):=by
 unfold isT at h
 split at h
 ·simp only [Bool.and_eq_true,decide_eq_true_eq] at h
  obtain ⟨⟨rfl,rfl⟩,rfl⟩:=h
  rfl
 ·cases h
def leftV (x:Int):Int:=match lvN 7 x.toNat with
 |0=>-1
 |k+1=>x-2^k
def rightV (x:Int):Int:=match lvN 7 x.toNat with
 |0=>-1
 |k+1=>x+2^k
theorem children_all:((List.range 64).all fun x=>isT (leftV x) (rightV x) (callS Tryz.prog chC 60 Tryz.f81 [.int .i64 x] []))=true:=by kernel_rfl
theorem children_fn {x:Int} (h0:0≤x) (h1:x<64):FnTr Tryz.prog 81 [.int .i64 x] [] (.tup [.int .i64 (leftV x),.int .i64 (rightV x)]) []:=by
 obtain ⟨n,rfl⟩:=Int.eq_ofNat_of_zero_le h0
 have h:=List.all_eq_true.1 children_all n (List.mem_range.2 (by omega))
 exact call0 chC_ok 60 Tryz.func81 (isT_iff h) rfl rfl
noncomputable def childrenF:List SV→Option (SV×List Blk×Bool)
 | [.int .i64 x]=>some (.tup [.int .i64 (leftV x),.int .i64 (rightV x)],[],decide (0≤x)&&decide (x<64))
 |_=>none
noncomputable def childrenE:Entry Tryz.prog:=.val 81 _ Tryz.func81 (by decide) rfl false 0 childrenF fun vs v new e=>by
 unfold childrenF at e
 split at e
 ·simp only [Option.some.injEq,Prod.mk.injEq,Bool.and_eq_true,decide_eq_true_eq] at e
  obtain ⟨rfl,rfl,h1,h2⟩:=e
  exact children_fn h1 h2
 ·cases e
def sizes:List Nat:=[1,2,4,8,16,32]
def nodeB (x n:Int):Bool:=sizes.any fun m=>decide (n=m)&&decide (0≤x)&&decide (x≤2*m-2)
theorem nodeB_iff {x n:Int} (h:nodeB x n=true):∃m∈sizes,∃y:Nat,n=(m:Int)∧x=(y:Int)∧y<2*m-1:=by
 unfold nodeB at h
 obtain ⟨m,hm,h⟩:=List.any_eq_true.1 h
 simp only [Bool.and_eq_true,decide_eq_true_eq] at h
 obtain ⟨⟨rfl,h0⟩,h1⟩:=h
 obtain ⟨y,rfl⟩:=Int.eq_ofNat_of_zero_le h0
 have:1≤m:=by simp only [sizes,List.mem_cons,List.not_mem_nil,or_false] at hm;omega
 exact ⟨m,hm,y,rfl,rfl,by omega⟩
def parV (x n:Int):Int:=if x=n-1 then-1 else if (x.toNat/2^(lvN 7 x.toNat+1))%2=0 then x+2^lvN 7 x.toNat else x-2^lvN 7 x.toNat
def firstV (x:Int):Int:=(x-(2^lvN 7 x.toNat-1))/2
def lastV (x:Int):Int:=(x+(2^lvN 7 x.toNat-1))/2
noncomputable def ndInl:List (FuncId×Func):=[(216,Tryz.f216),(171,Tryz.f171),(189,Tryz.f189)]
theorem ndInl_ok:InlOK Tryz.prog ndInl:=InlOK.cons Tryz.func216 (by decide) (InlOK.cons Tryz.func171 (by decide) (InlOK.cons Tryz.func189 (by decide) InlOK.nil))
noncomputable def paC:Ctr:=mk (P:=Tryz.prog) [levelE] ndInl
theorem paC_ok:CtrSound Tryz.prog paC:=mk_sound _ ndInl_ok _ _
theorem parent_all:(sizes.all fun n=>(List.range (2*n-1)).all fun x=>isI (parV x n) (callS Tryz.prog paC 60 Tryz.f147 [.int .i64 x,.int .i64 n] []))=true:=by kernel_rfl
theorem parent_fn {x n:Int} (h:nodeB x n=true):FnTr Tryz.prog 147 [.int .i64 x,.int .i64 n] [] (.int .i64 (parV x n)) []:=by
 obtain ⟨m,hm,y,rfl,rfl,hy⟩:=nodeB_iff h
 have h:=List.all_eq_true.1 (List.all_eq_true.1 parent_all m hm) y (List.mem_range.2 hy)
 exact call0 paC_ok 60 Tryz.func147 (isI_iff h) rfl rfl
noncomputable def parentF:List SV→Option (SV×List Blk×Bool)
 | [.int .i64 x,.int .i64 n]=>some (.int .i64 (parV x n),[],nodeB x n)
 |_=>none
noncomputable def parentE:Entry Tryz.prog:=.val 147 _ Tryz.func147 (by decide) rfl false 0 parentF fun vs v new e=>by
 unfold parentF at e
 split at e
 ·simp only [Option.some.injEq,Prod.mk.injEq] at e
  obtain ⟨rfl,rfl,h⟩:=e
  exact parent_fn h
 ·cases e
theorem below_all:(sizes.all fun n=>(List.range (2*n-1)).all fun x=>isT (firstV x) (lastV x) (callS Tryz.prog paC 60 Tryz.f128 [.int .i64 x,.int .i64 n] []))=true:=by kernel_rfl
theorem below_fn {x n:Int} (h:nodeB x n=true):FnTr Tryz.prog 128 [.int .i64 x,.int .i64 n] [] (.tup [.int .i64 (firstV x),.int .i64 (lastV x)]) []:=by
 obtain ⟨m,hm,y,rfl,rfl,hy⟩:=nodeB_iff h
 have h:=List.all_eq_true.1 (List.all_eq_true.1 below_all m hm) y (List.mem_range.2 hy)
 exact call0 paC_ok 60 Tryz.func128 (isT_iff h) rfl rfl
noncomputable def belowF:List SV→Option (SV×List Blk×Bool)
 | [.int .i64 x,.int .i64 n]=>some (.tup [.int .i64 (firstV x),.int .i64 (lastV x)],[],nodeB x n)
 |_=>none
noncomputable def belowE:Entry Tryz.prog:=.val 128 _ Tryz.func128 (by decide) rfl false 0 belowF fun vs v new e=>by
 unfold belowF at e
 split at e
 ·simp only [Option.some.injEq,Prod.mk.injEq] at e
  obtain ⟨rfl,rfl,h⟩:=e
  exact below_fn h
 ·cases e
end Go.Proofs.YthlnlcijnoadcaaGreatDoor.Tr
end
