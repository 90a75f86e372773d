/- This file holds the texts WiC, WiD, a section each. No conditions beyond those in the theorems. -/
import Derived.Test.YthlnlcijnoadcaaGreatDoorFWiB
set_option linter.all false
set_option maxRecDepth 100000
section
namespace Go.Proofs.YthlnlcijnoadcaaGreatDoor.Wi
open Go Go.Sy Tr
theorem wb_run (nm:Int) (k s p un:List Int):(callS Tryz.prog (noL [(9,true),(15,true),(21,true),(27,true)]) 60 Tryz.f202 [nod false nm k s p un] []).map (fun x=>(x.1,x.2.2))=some (.bool ((un.length:Int)==0),andT (andT (andT (andT (andT (andT (andT true (nm==0)) (decide (k.length=32))) (decide (k=List.replicate 32 0))) (decide (s.length=32))) (decide (s=List.replicate 32 0))) (decide (p.length=32))) (decide (p=List.replicate 32 0))):=by kernel_rfl
noncomputable def wrB:Code:=bodyOf Tryz.f203
noncomputable def wrS (un:List Int) (i:Int):St:=⟨slotsOf 24 [(0,.ro false .i64 un),(5,.int .i64 un.length),(6,.int .i64 i)],[],true⟩
noncomputable def wrF (b:Bool):St:=⟨slotsOf 24 [(2,.bool b)],[],true⟩
theorem wr_head (un:List Int):resX (cutR [0,5,6] 0 ((execL Tryz.prog (noL []) 60 0 2 (atoms wrB) ⟨slots0 Tryz.f203.ntmps [.ro false .i64 un],[],true⟩).map fun s=>(Exit.normal,s)))=some (.normal,(wrS un 0).t,[]):=by kernel_rfl
theorem wr_head' (un:List Int):obX (cutR [0,5,6] 0 ((execL Tryz.prog (noL []) 60 0 2 (atoms wrB) ⟨slots0 Tryz.f203.ntmps [.ro false .i64 un],[],true⟩).map fun s=>(Exit.normal,s)))=(true):=by kernel_rfl
theorem wr_0 (un:List Int) (i:Int):resX (cutR [0,5,6] 0 (exec Tryz.prog (noL [(7,true),(10,false)]) 60 0 (inner (inner (nthC 2 wrB))) (wrS un i)))=some (.normal,(wrS un (IntKind.i64.wrap (i+1))).t,[]):=by kernel_rfl
theorem wr_0' (un:List Int) (i:Int):obX (cutR [0,5,6] 0 (exec Tryz.prog (noL [(7,true),(10,false)]) 60 0 (inner (inner (nthC 2 wrB))) (wrS un i)))=(andT (andT true (decide (i<((un.length:Nat):Int)))) !decide (i>0)):=by kernel_rfl
theorem wr_go (un:List Int) (i:Int):resX (cutR [0,5,6] 0 (exec Tryz.prog (noL [(7,true),(10,true),(21,false)]) 60 0 (inner (inner (nthC 2 wrB))) (wrS un i)))=some (.normal,(wrS un (IntKind.i64.wrap (i+1))).t,[]):=by kernel_rfl
theorem wr_go' (un:List Int) (i:Int):obX (cutR [0,5,6] 0 (exec Tryz.prog (noL [(7,true),(10,true),(21,false)]) 60 0 (inner (inner (nthC 2 wrB))) (wrS un i)))=(andT (andT (andT (andT (andT (andT (andT true (decide (i<((un.length:Nat):Int)))) (decide (i>0))) (inB i un.length)) (decide (i.toNat<un.length))) (inB (IntKind.i64.wrap (i-1)) un.length)) (decide ((IntKind.i64.wrap (i-1)).toNat<un.length))) !decide (un.getD i.toNat 0≤un.getD (IntKind.i64.wrap (i-1)).toNat 0)):=by kernel_rfl
theorem wr_no (un:List Int) (i:Int):resX (cutR [2] 0 (exec Tryz.prog (noL [(7,true),(10,true),(21,true)]) 60 0 (inner (inner (nthC 2 wrB))) (wrS un i)))=some (.ret,(wrF false).t,[]):=by kernel_rfl
theorem wr_no' (un:List Int) (i:Int):obX (cutR [2] 0 (exec Tryz.prog (noL [(7,true),(10,true),(21,true)]) 60 0 (inner (inner (nthC 2 wrB))) (wrS un i)))=(andT (andT (andT (andT (andT (andT (andT true (decide (i<((un.length:Nat):Int)))) (decide (i>0))) (inB i un.length)) (decide (i.toNat<un.length))) (inB (IntKind.i64.wrap (i-1)) un.length)) (decide ((IntKind.i64.wrap (i-1)).toNat<un.length))) (decide (un.getD i.toNat 0≤un.getD (IntKind.i64.wrap (i-1)).toNat 0))):=by kernel_rfl
theorem wr_end (un:List Int) (i:Int):resX (cutR [] 0 (exec Tryz.prog (noL [(7,false)]) 60 0 (inner (inner (nthC 2 wrB))) (wrS un i)))=some (.exit 0,slotsOf 24 [],[]):=by kernel_rfl
theorem wr_end' (un:List Int) (i:Int):obX (cutR [] 0 (exec Tryz.prog (noL [(7,false)]) 60 0 (inner (inner (nthC 2 wrB))) (wrS un i)))=(andT true !decide (i<((un.length:Nat):Int))):=by kernel_rfl
def wrJ (un:List Int) (i:Nat):Bool:=!(decide (i>0)&&decide (un.getD i 0≤un.getD (i-1) 0))
theorem rising_fn {un:List Int} (h:un.length≤274877906944):FnTr Tryz.prog 203 [.ro false .i64 un] [] (.bool ((List.range un.length).all (wrJ un))) []:=by
 have key:=FnTr.scan (P:=Tryz.prog) (args:=[.ro false .i64 un]) (h:=[]) (h':=[]) Tryz.func203 rfl 2 0 (fun j:Nat=>wrS un j) (wrJ un) un.length
  (fun x s' g=>TrL.itemsX (noL_ok []) 60 2 _ 0 (by simp) _ (wr_head un) (wr_head' un) rfl (by decide) rfl g) (by decide) (by kernel_rfl)
  (fun i hi hb _=>?_) (fun i=>wrF false) (fun i=>[.bool false]) (fun i hi hb _=>⟨?_,rfl,rfl⟩) (sE:=⟨slotsOf 24 [],[],true⟩) (sE':=wrF true) (vE:=[.bool true]) (xE:=.ret) (fun _=>?_) (fun _=>⟨?_,.inl rfl,rfl,rfl⟩)
 ·rw [oneOf_scan (g:=SV.bool) (vF:=fun _:Nat=>false) (vE:=true)] at key
  have hv:scanV (wrJ un) un.length (fun _=>false) true=(List.range un.length).all (wrJ un):=by
   unfold scanV;rw [←firstN_all];cases firstN _ _<;>rfl
  rw [hv] at key;exact key
 ·by_cases h0:i=0
  ·subst h0
   have e:=wr_0 un ((0:Nat):Int)
   rw [wrapS (by omega)] at e
   exact Tr.cutX (noL_ok [(7,true),(10,false)]) 60 _ 0 (Nat.le_refl _) (s':=wrS un ((0+1:Nat):Int)) _ e (wr_0' un _) (by rw [ltN hi];rfl)
  ·have e:=wr_go un i
   rw [wrapS (by omega)] at e
   unfold wrJ at hb
   rw [decide_eq_true (show i>0 by omega),Bool.true_and] at hb
   have hi2:IntKind.i64.wrap ((i:Int)-1)=((i-1:Nat):Int):=by rw [wrapI (by omega) (by omega)];omega
   exact Tr.cutX (noL_ok [(7,true),(10,true),(21,false)]) 60 _ 0 (Nat.le_refl _) (s':=wrS un ((i+1:Nat):Int)) _ e (wr_go' un _) (by rw [hi2,Int.toNat_natCast,Int.toNat_natCast,ltN hi,inBN hi,inBN (show i-1<un.length by omega),decide_eq_true hi,decide_eq_true (show i-1<un.length by omega),decide_eq_true (show ((i:Nat):Int)>0 by omega),hb];rfl)
 ·unfold wrJ at hb
  have hb':i>0∧decide (un.getD i 0≤un.getD (i-1) 0)=true:=by simpa using hb
  have hi2:IntKind.i64.wrap ((i:Int)-1)=((i-1:Nat):Int):=by rw [wrapI (by omega) (by omega)];omega
  exact Tr.cutX (noL_ok [(7,true),(10,true),(21,true)]) 60 _ 0 (Nat.le_refl _) (s':=wrF false) _ (wr_no un _) (wr_no' un _) (by rw [hi2,Int.toNat_natCast,Int.toNat_natCast,ltN hi,inBN hi,inBN (show i-1<un.length by omega),decide_eq_true hi,decide_eq_true (show i-1<un.length by omega),decide_eq_true (show ((i:Nat):Int)>0 by omega),hb'.2];rfl)
 ·exact Tr.cutX (noL_ok [(7,false)]) 60 _ 0 (Nat.le_refl _) (s':=⟨slotsOf 24 [],[],true⟩) _ (wr_end un _) (wr_end' un _) (by rw [nltN (Nat.le_refl _)];rfl)
 ·exact TrL.rest (noL_ok []) 60 (by kernel_rfl) rfl
def riseB (un:List Int):Bool:=(List.range un.length).all fun i=>!(decide (i>0)&&decide (un.getD i 0≤un.getD (i-1) 0))
noncomputable def risE:Entry Tryz.prog:=.val 203 _ Tryz.func203 (by decide) rfl true 0 (fun vs=>match vs with
 | [.ro false .i64 un]=>some (.bool (riseB un),[],decide (un.length≤274877906944))
 |_=>none) fun vs v new e=>by
 split at e
 ·simp only [Option.some.injEq,Prod.mk.injEq,decide_eq_true_eq] at e
  obtain ⟨rfl,rfl,h⟩:=e
  exact rising_fn h
 ·cases e
def zeroB (nm:Int) (k s p un:List Int):Bool:=(nm==0)&&decide (k=List.replicate 32 0)&&decide (s=List.replicate 32 0)&&decide (p=List.replicate 32 0)&&decide (un.length=0)
noncomputable def wblE:Entry Tryz.prog:=.val 202 _ Tryz.func202 (by decide) rfl false 0 (fun vs=>match vs with
 | [.agg [.bool false,.int .i64 nm,.ints .u8 32 k,.ints .u8 32 s,.ints .u8 32 p,.ro f .i64 un]]=>some (.bool true,[],zeroB nm k s p un&&!f)
 |_=>none) fun vs v new e=>by
 split at e
 ·rename_i nm k s p f un
  simp only [Option.some.injEq,Prod.mk.injEq,Bool.and_eq_true,Bool.not_eq_true'] at e
  obtain ⟨rfl,rfl,h,rfl⟩:=e
  unfold zeroB at h
  simp only [Bool.and_eq_true,decide_eq_true_eq] at h
  obtain ⟨⟨⟨⟨h1,rfl⟩,rfl⟩,rfl⟩,h2⟩:=h
  have q:=wb_run nm (List.replicate 32 0) (List.replicate 32 0) (List.replicate 32 0) un
  rw [h2] at q
  refine call0 (noL_ok _) 60 Tryz.func202 (q.trans ?_) rfl rfl
  rw [h1];rfl
 ·cases e
noncomputable def no0 (l:List (Nat×Bool)):Ctr:=mk (P:=Tryz.prog) [byt0E,risE,wblE] [] (uT l)
theorem no0_ok (l:List (Nat×Bool)):CtrSound Tryz.prog (no0 l):=mk_sound _ InlOK.nil _ _
noncomputable def noC (m:Bool) (l:List (Nat×Bool)):Ctr:=mk (P:=Tryz.prog) [bytE m,numE m,lisE m] [] (uT l)
theorem noC_ok2 (m:Bool) (l:List (Nat×Bool)):CtrSound Tryz.prog (noC m l):=mk_sound _ InlOK.nil _ _
noncomputable def ndB:Code:=bodyOf Tryz.f164
end Go.Proofs.YthlnlcijnoadcaaGreatDoor.Wi
end
section
namespace Go.Proofs.YthlnlcijnoadcaaGreatDoor.Wi
open Go Go.Sy Tr
section
variable (u:Bool) (nm:Int) (k s p un:List Int)
abbrev bxL:List SV:=[.bool u,.int .i64 nm,.ints .u8 32 k,.ints .u8 32 s,.ints .u8 32 p,.ro false .i64 un]
noncomputable def ndT:List (Option SV):=slotsOf 48 [(0,.ptr 0 0 0),(3,.ptr 1 0 0)]
noncomputable def ndM (n:Nat) (xs:List Int):St:=⟨ndT,[.b [.sl 2 0 0 1 n n false true,.bool false],.b (bxL u nm k s p un),.b [.ints .u8 n xs]],true⟩
noncomputable def ndX (n c:Nat) (xs:List Int):St:=⟨ndT,[.b [.sl 2 0 0 1 n c true true,.bool false],.b (bxL u nm k s p un),.b [.ints .u8 n xs]],true⟩
noncomputable def ndN (n:Nat) (xs:List Int):St:=⟨ndT,[.b [.sl 3 0 0 1 n n false true,.bool false],.b (bxL u nm k s p un),.b [],.b [.ints .u8 n xs]],true⟩
end
theorem nd_hu (nm:Int) (k s p un:List Int):resX (cutR [0,3] 4 ((execL Tryz.prog (no0 [(20,false)]) 60 1 7 (atoms ndB) ⟨slots0 Tryz.f164.ntmps [.ptr 0 0 0,nod true nm k s p un],[.b [.nl (.slice none 0 0),.bool false]],true⟩).map fun s=>(Exit.normal,s)))=some (.normal,ndT,[.b [.sl 3 0 0 1 1 1 false true,.bool false],.b (bxL true nm k s p un),.b [.ints .u8 1 [1]],.b [.ints .u8 1 [1]]]):=by kernel_rfl
theorem nd_hu' (nm:Int) (k s p un:List Int):obX (cutR [0,3] 4 ((execL Tryz.prog (no0 [(20,false)]) 60 1 7 (atoms ndB) ⟨slots0 Tryz.f164.ntmps [.ptr 0 0 0,nod true nm k s p un],[.b [.nl (.slice none 0 0),.bool false]],true⟩).map fun s=>(Exit.normal,s)))=(andT (andT true (andT true (decide (un.length≤274877906944)))) !!riseB un):=by kernel_rfl
theorem nd_hz (nm:Int) (k s p un:List Int):resX (cutR [0,3] 4 ((execL Tryz.prog (no0 [(20,false),(13,false)]) 60 1 7 (atoms ndB) ⟨slots0 Tryz.f164.ntmps [.ptr 0 0 0,nod false nm k s p un],[.b [.nl (.slice none 0 0),.bool false]],true⟩).map fun s=>(Exit.normal,s)))=some (.normal,ndT,[.b [.sl 3 0 0 1 1 1 false true,.bool false],.b (bxL false nm k s p un),.b [.ints .u8 1 [0]],.b [.ints .u8 1 [0]]]):=by kernel_rfl
theorem nd_hz' (nm:Int) (k s p un:List Int):obX (cutR [0,3] 4 ((execL Tryz.prog (no0 [(20,false),(13,false)]) 60 1 7 (atoms ndB) ⟨slots0 Tryz.f164.ntmps [.ptr 0 0 0,nod false nm k s p un],[.b [.nl (.slice none 0 0),.bool false]],true⟩).map fun s=>(Exit.normal,s)))=(andT (andT (andT true (andT true (zeroB nm k s p un&&true))) (andT true (decide (un.length≤274877906944)))) !!riseB un):=by kernel_rfl
theorem nd_7i (u:Bool) (nm:Int) (k s p un:List Int) (n c:Nat) (xs:List Int):resX (cutR [0,3] 3 (exec Tryz.prog (noC false []) 60 1 (nthC 7 ndB) (ndX u nm k s p un n c xs)))=some (.normal,ndT,(ndX u nm k s p un (n+1) c (xs++[byN nm])).h):=by kernel_rfl
theorem nd_7i' (u:Bool) (nm:Int) (k s p un:List Int) (n c:Nat) (xs:List Int):obX (cutR [0,3] 3 (exec Tryz.prog (noC false []) 60 1 (nthC 7 ndB) (ndX u nm k s p un n c xs)))=(andT true (andT true (penO false n n c xs [byN nm]&&decide (0≤nm)&&decide (nm≤255)))):=by kernel_rfl
theorem nd_7m (u:Bool) (nm:Int) (k s p un:List Int) (n c:Nat) (xs:List Int):resX (cutR [0,3] 4 (exec Tryz.prog (noC true []) 60 1 (nthC 7 ndB) (ndX u nm k s p un n c xs)))=some (.normal,ndT,(ndN u nm k s p un (n+1) (xs++[byN nm])).h):=by kernel_rfl
theorem nd_7m' (u:Bool) (nm:Int) (k s p un:List Int) (n c:Nat) (xs:List Int):obX (cutR [0,3] 4 (exec Tryz.prog (noC true []) 60 1 (nthC 7 ndB) (ndX u nm k s p un n c xs)))=(andT true (andT true (penO true n n c xs [byN nm]&&decide (0≤nm)&&decide (nm≤255)))):=by kernel_rfl
theorem nd_8i (u:Bool) (nm:Int) (k s p un:List Int) (n c:Nat) (xs:List Int):resX (cutR [0,3] 3 (exec Tryz.prog (noC false []) 60 1 (nthC 8 ndB) (ndX u nm k s p un n c xs)))=some (.normal,ndT,(ndX u nm k s p un (n+k.length) c (xs++k)).h):=by kernel_rfl
theorem nd_8i' (u:Bool) (nm:Int) (k s p un:List Int) (n c:Nat) (xs:List Int):obX (cutR [0,3] 3 (exec Tryz.prog (noC false []) 60 1 (nthC 8 ndB) (ndX u nm k s p un n c xs)))=(andT true (andT (andT true (andT (decide (k.length=32)&&true) (decide (k.length=32)))) (penO false n n c xs k))):=by kernel_rfl
theorem nd_8m (u:Bool) (nm:Int) (k s p un:List Int) (n c:Nat) (xs:List Int):resX (cutR [0,3] 4 (exec Tryz.prog (noC true []) 60 1 (nthC 8 ndB) (ndX u nm k s p un n c xs)))=some (.normal,ndT,(ndN u nm k s p un (n+k.length) (xs++k)).h):=by kernel_rfl
theorem nd_8m' (u:Bool) (nm:Int) (k s p un:List Int) (n c:Nat) (xs:List Int):obX (cutR [0,3] 4 (exec Tryz.prog (noC true []) 60 1 (nthC 8 ndB) (ndX u nm k s p un n c xs)))=(andT true (andT (andT true (andT (decide (k.length=32)&&true) (decide (k.length=32)))) (penO true n n c xs k))):=by kernel_rfl
theorem nd_9i (u:Bool) (nm:Int) (k s p un:List Int) (n c:Nat) (xs:List Int):resX (cutR [0,3] 3 (exec Tryz.prog (noC false []) 60 1 (nthC 9 ndB) (ndX u nm k s p un n c xs)))=some (.normal,ndT,(ndX u nm k s p un (n+s.length) c (xs++s)).h):=by kernel_rfl
theorem nd_9i' (u:Bool) (nm:Int) (k s p un:List Int) (n c:Nat) (xs:List Int):obX (cutR [0,3] 3 (exec Tryz.prog (noC false []) 60 1 (nthC 9 ndB) (ndX u nm k s p un n c xs)))=(andT true (andT (andT true (andT (decide (s.length=32)&&true) (decide (s.length=32)))) (penO false n n c xs s))):=by kernel_rfl
theorem nd_9m (u:Bool) (nm:Int) (k s p un:List Int) (n c:Nat) (xs:List Int):resX (cutR [0,3] 4 (exec Tryz.prog (noC true []) 60 1 (nthC 9 ndB) (ndX u nm k s p un n c xs)))=some (.normal,ndT,(ndN u nm k s p un (n+s.length) (xs++s)).h):=by kernel_rfl
theorem nd_9m' (u:Bool) (nm:Int) (k s p un:List Int) (n c:Nat) (xs:List Int):obX (cutR [0,3] 4 (exec Tryz.prog (noC true []) 60 1 (nthC 9 ndB) (ndX u nm k s p un n c xs)))=(andT true (andT (andT true (andT (decide (s.length=32)&&true) (decide (s.length=32)))) (penO true n n c xs s))):=by kernel_rfl
theorem nd_ai (u:Bool) (nm:Int) (k s p un:List Int) (n c:Nat) (xs:List Int):resX (cutR [0,3] 3 (exec Tryz.prog (noC false []) 60 1 (nthC 10 ndB) (ndX u nm k s p un n c xs)))=some (.normal,ndT,(ndX u nm k s p un (n+p.length) c (xs++p)).h):=by kernel_rfl
theorem nd_ai' (u:Bool) (nm:Int) (k s p un:List Int) (n c:Nat) (xs:List Int):obX (cutR [0,3] 3 (exec Tryz.prog (noC false []) 60 1 (nthC 10 ndB) (ndX u nm k s p un n c xs)))=(andT true (andT (andT true (andT (decide (p.length=32)&&true) (decide (p.length=32)))) (penO false n n c xs p))):=by kernel_rfl
theorem nd_am (u:Bool) (nm:Int) (k s p un:List Int) (n c:Nat) (xs:List Int):resX (cutR [0,3] 4 (exec Tryz.prog (noC true []) 60 1 (nthC 10 ndB) (ndX u nm k s p un n c xs)))=some (.normal,ndT,(ndN u nm k s p un (n+p.length) (xs++p)).h):=by kernel_rfl
theorem nd_am' (u:Bool) (nm:Int) (k s p un:List Int) (n c:Nat) (xs:List Int):obX (cutR [0,3] 4 (exec Tryz.prog (noC true []) 60 1 (nthC 10 ndB) (ndX u nm k s p un n c xs)))=(andT true (andT (andT true (andT (decide (p.length=32)&&true) (decide (p.length=32)))) (penO true n n c xs p))):=by kernel_rfl
theorem nd_bi (u:Bool) (nm:Int) (k s p un:List Int) (n c:Nat) (xs:List Int):resX (cutR [0,3] 3 (exec Tryz.prog (noC false []) 60 1 (nthC 11 ndB) (ndX u nm k s p un n c xs)))=some (.normal,ndT,(ndX u nm k s p un (n+(liW un).length) c (xs++liW un)).h):=by kernel_rfl
theorem nd_bi' (u:Bool) (nm:Int) (k s p un:List Int) (n c:Nat) (xs:List Int):obX (cutR [0,3] 3 (exec Tryz.prog (noC false []) 60 1 (nthC 11 ndB) (ndX u nm k s p un n c xs)))=(andT true (andT true (penO false n n c xs (liW un)&&unOK un&&decide (((un.length:Nat):Int)≤32)))):=by kernel_rfl
theorem nd_bm (u:Bool) (nm:Int) (k s p un:List Int) (n c:Nat) (xs:List Int):resX (cutR [0,3] 4 (exec Tryz.prog (noC true []) 60 1 (nthC 11 ndB) (ndX u nm k s p un n c xs)))=some (.normal,ndT,(ndN u nm k s p un (n+(liW un).length) (xs++liW un)).h):=by kernel_rfl
theorem nd_bm' (u:Bool) (nm:Int) (k s p un:List Int) (n c:Nat) (xs:List Int):obX (cutR [0,3] 4 (exec Tryz.prog (noC true []) 60 1 (nthC 11 ndB) (ndX u nm k s p un n c xs)))=(andT true (andT true (penO true n n c xs (liW un)&&unOK un&&decide (((un.length:Nat):Int)≤32)))):=by kernel_rfl
def nodeW (u:Bool) (nm:Int) (k s p un:List Int):List Int:=(((([bif u then 1 else 0]++[byN nm])++k)++s)++p)++liW un
def nodeB (u:Bool) (nm:Int) (k s p un:List Int):Bool:=decide (k.length=32)&&decide (s.length=32)&&decide (p.length=32)&&decide (0≤nm)&&decide (nm≤255)&&unOK un&&riseB un&&decide (un.length≤32)&&(u||zeroB nm k s p un)
section
variable {u:Bool} {nm:Int} {k s p un:List Int} {n:Nat} {xs ys:List Int}
theorem nd_step {c:Code} (hi:∀cc,n+ys.length≤cc→Tr Tryz.prog none 1 c (ndX u nm k s p un n cc xs) .normal (ndX u nm k s p un (n+ys.length) cc (xs++ys))) (hm:∀cc,cc<n+ys.length→Tr Tryz.prog none 1 c (ndX u nm k s p un n cc xs) .normal (ndN u nm k s p un (n+ys.length) (xs++ys))):
  Tr Tryz.prog none 1 c (ndM u nm k s p un n xs) .normal (ndM u nm k s p un (n+ys.length) (xs++ys)):=by
 refine Tr.anyC (b:=0) (pre:=[]) (post:=[.bool false]) (wh:=true) rfl fun cc hcc=>?_
 by_cases hc:n+ys.length≤cc
 ·refine Tr.post (hi cc hc) ?_
  refine Ent.blks ⟨⟨rfl,?_⟩,PE.refl _,PE.refl _,trivial⟩
  rintro e us ⟨y,zs,hy,hz,rfl⟩
  refine ⟨y,zs,?_,hz,rfl⟩
  rcases hy with h|⟨p,c',a,h1,h2,h3,h4,h5,h6,h7⟩
  ·exact .inl ⟨h.1,h.1,h.2.2⟩
  ·exact .inr ⟨p,c',a,h1,h2,h3,h6,(by simp),h6,h7⟩
 ·refine Tr.post (hm cc (by omega)) ?_
  have q:=Ent.swap (k:=1) (t:=ndT) (h:=(ndN u nm k s p un (n+ys.length) (xs++ys)).h) (o:=true) (o':=true) 2 3 (by decide) (by decide) rfl rfl rfl
  exact (q.trans (Ent.same (s':=⟨ndT,[.b [.sl 2 0 0 1 (n+ys.length) (n+ys.length) false true,.bool false],.b (bxL u nm k s p un),.b [.ints .u8 (n+ys.length) (xs++ys)],.b []],true⟩) rfl rfl)).trans (Ent.trunc (n:=3) (by decide) rfl)
theorem nd_7 (hl:xs.length=n) (h0:0≤nm) (h1:nm≤255) (hn:n≤1000):Tr Tryz.prog none 1 (nthC 7 ndB) (ndM u nm k s p un n xs) .normal (ndM u nm k s p un (n+ [byN nm].length) (xs++[byN nm])):=
 nd_step (fun cc hc=>Tr.cutX (noC_ok2 false []) 60 _ 3 (by decide) (s':=ndX u nm k s p un (n+1) cc (xs++[byN nm])) _ (nd_7i u nm k s p un n cc xs) (nd_7i' u nm k s p un n cc xs) (by rw [penO_mk (m:=false) (ys:=[byN nm]) hl (by show n+1≤2^38;omega) hc,decide_eq_true h0,decide_eq_true h1];rfl))
  (fun cc hc=>Tr.cutX (noC_ok2 true []) 60 _ 4 (by decide) (s':=ndN u nm k s p un (n+1) (xs++[byN nm])) _ (nd_7m u nm k s p un n cc xs) (nd_7m' u nm k s p un n cc xs) (by rw [penO_mk (m:=true) (ys:=[byN nm]) hl (by show n+1≤2^38;omega) hc,decide_eq_true h0,decide_eq_true h1];rfl))
theorem nd_8 (hl:xs.length=n) (hk:k.length=32) (hn:n≤1000):Tr Tryz.prog none 1 (nthC 8 ndB) (ndM u nm k s p un n xs) .normal (ndM u nm k s p un (n+k.length) (xs++k)):=
 nd_step (fun cc hc=>Tr.cutX (noC_ok2 false []) 60 _ 3 (by decide) (s':=ndX u nm k s p un (n+k.length) cc (xs++k)) _ (nd_8i u nm k s p un n cc xs) (nd_8i' u nm k s p un n cc xs) (by rw [penO_mk (m:=false) (ys:=k) hl (by omega) hc,decide_eq_true hk];rfl))
  (fun cc hc=>Tr.cutX (noC_ok2 true []) 60 _ 4 (by decide) (s':=ndN u nm k s p un (n+k.length) (xs++k)) _ (nd_8m u nm k s p un n cc xs) (nd_8m' u nm k s p un n cc xs) (by rw [penO_mk (m:=true) (ys:=k) hl (by omega) hc,decide_eq_true hk];rfl))
theorem nd_9 (hl:xs.length=n) (hk:s.length=32) (hn:n≤1000):Tr Tryz.prog none 1 (nthC 9 ndB) (ndM u nm k s p un n xs) .normal (ndM u nm k s p un (n+s.length) (xs++s)):=
 nd_step (fun cc hc=>Tr.cutX (noC_ok2 false []) 60 _ 3 (by decide) (s':=ndX u nm k s p un (n+s.length) cc (xs++s)) _ (nd_9i u nm k s p un n cc xs) (nd_9i' u nm k s p un n cc xs) (by rw [penO_mk (m:=false) (ys:=s) hl (by omega) hc,decide_eq_true hk];rfl))
  (fun cc hc=>Tr.cutX (noC_ok2 true []) 60 _ 4 (by decide) (s':=ndN u nm k s p un (n+s.length) (xs++s)) _ (nd_9m u nm k s p un n cc xs) (nd_9m' u nm k s p un n cc xs) (by rw [penO_mk (m:=true) (ys:=s) hl (by omega) hc,decide_eq_true hk];rfl))
theorem nd_a (hl:xs.length=n) (hk:p.length=32) (hn:n≤1000):Tr Tryz.prog none 1 (nthC 10 ndB) (ndM u nm k s p un n xs) .normal (ndM u nm k s p un (n+p.length) (xs++p)):=
 nd_step (fun cc hc=>Tr.cutX (noC_ok2 false []) 60 _ 3 (by decide) (s':=ndX u nm k s p un (n+p.length) cc (xs++p)) _ (nd_ai u nm k s p un n cc xs) (nd_ai' u nm k s p un n cc xs) (by rw [penO_mk (m:=false) (ys:=p) hl (by omega) hc,decide_eq_true hk];rfl))
  (fun cc hc=>Tr.cutX (noC_ok2 true []) 60 _ 4 (by decide) (s':=ndN u nm k s p un (n+p.length) (xs++p)) _ (nd_am u nm k s p un n cc xs) (nd_am' u nm k s p un n cc xs) (by rw [penO_mk (m:=true) (ys:=p) hl (by omega) hc,decide_eq_true hk];rfl))
theorem nd_b (hl:xs.length=n) (hu:unOK un=true) (hk:un.length≤32) (hn:n≤1000):Tr Tryz.prog none 1 (nthC 11 ndB) (ndM u nm k s p un n xs) .normal (ndM u nm k s p un (n+(liW un).length) (xs++liW un)):=by
 have hlen:=liW_len un
 exact nd_step (fun cc hc=>Tr.cutX (noC_ok2 false []) 60 _ 3 (by decide) (s':=ndX u nm k s p un (n+(liW un).length) cc (xs++liW un)) _ (nd_bi u nm k s p un n cc xs) (nd_bi' u nm k s p un n cc xs) (by rw [penO_mk (m:=false) (ys:=liW un) hl (by omega) hc,hu,decide_eq_true (show ((un.length:Nat):Int)≤32 by omega)];rfl))
  (fun cc hc=>Tr.cutX (noC_ok2 true []) 60 _ 4 (by decide) (s':=ndN u nm k s p un (n+(liW un).length) (xs++liW un)) _ (nd_bm u nm k s p un n cc xs) (nd_bm' u nm k s p un n cc xs) (by rw [penO_mk (m:=true) (ys:=liW un) hl (by omega) hc,hu,decide_eq_true (show ((un.length:Nat):Int)≤32 by omega)];rfl))
theorem nodeW_len (hk:k.length=32) (hs:s.length=32) (hp:p.length=32):(nodeW u nm k s p un).length=1+1+32+32+32+(1+un.length):=by
 unfold nodeW
 simp only [List.length_append,hk,hs,hp,liW_len,List.length_cons,List.length_nil]
theorem nd_start {x:Int} {h2:List Blk} {y:Exit} {s':St} (g:TrL Tryz.prog none 1 ((atoms ndB).drop 7) (ndM u nm k s p un 1 [x]) y s'):TrL Tryz.prog none 1 ((atoms ndB).drop 7) ⟨ndT,[.b [.sl 3 0 0 1 1 1 false true,.bool false],.b (bxL u nm k s p un),.b [.ints .u8 1 [x]],.b [.ints .u8 1 [x]]],true⟩ y s':=by
 refine TrL.pre g ?_ (by intro q;cases q)
 have q:=Ent.swap (k:=1) (t:=ndT) (h:=[.b [.sl 3 0 0 1 1 1 false true,.bool false],.b (bxL u nm k s p un),.b [.ints .u8 1 [x]],.b [.ints .u8 1 [x]]]) (o:=true) (o':=true) 2 3 (by decide) (by decide) rfl rfl rfl
 exact (q.trans (Ent.same (s':=⟨ndT,[.b [.sl 2 0 0 1 1 1 false true,.bool false],.b (bxL u nm k s p un),.b [.ints .u8 1 [x]],.b [.ints .u8 1 [x]]],true⟩) rfl rfl)).trans (Ent.trunc (n:=3) (by decide) rfl)
theorem node_fn (h:nodeB u nm k s p un=true):FnTr Tryz.prog 164 [.ptr 0 0 0,nod u nm k s p un] [.b [.nl (.slice none 0 0),.bool false]] (.tup []) [.b [.sl 1 0 0 1 (nodeW u nm k s p un).length (nodeW u nm k s p un).length false true,.bool false],.b [.ints .u8 (nodeW u nm k s p un).length (nodeW u nm k s p un)]]:=by
 unfold nodeB at h
 simp only [Bool.and_eq_true,decide_eq_true_eq] at h
 obtain ⟨⟨⟨⟨⟨⟨⟨⟨hk,hs⟩,hp⟩,h0⟩,h1⟩,hu⟩,hr⟩,hl⟩,hz⟩:=h
 have hW:(nodeW u nm k s p un).length=1+ [byN nm].length+k.length+s.length+p.length+(liW un).length:=by
  rw [nodeW_len hk hs hp,hk,hs,hp,liW_len];rfl
 have g:FnTr Tryz.prog 164 [.ptr 0 0 0,nod u nm k s p un] [.b [.nl (.slice none 0 0),.bool false]] (.tup []) (ndM u nm k s p un (1+ [byN nm].length+k.length+s.length+p.length+(liW un).length) (nodeW u nm k s p un)).h:=by
  refine FnTr.mk (vs:=[]) Tryz.func164 rfl (x:=.normal) (s:=ndM u nm k s p un (1+ [byN nm].length+k.length+s.length+p.length+(liW un).length) (nodeW u nm k s p un)) ?_ (.inr rfl) rfl
  have tail:TrL Tryz.prog none 1 ((atoms ndB).drop 7) (ndM u nm k s p un 1 [bif u then 1 else 0]) .normal (ndM u nm k s p un (1+ [byN nm].length+k.length+s.length+p.length+(liW un).length) (nodeW u nm k s p un)):=by
   have l1:[byN nm].length=1:=rfl
   refine TrL.item 7 (by decide) (nd_7 rfl h0 h1 (by decide)) ?_
   refine TrL.item 8 (by decide) (nd_8 rfl hk (by simp)) ?_
   refine TrL.item 9 (by decide) (nd_9 (by simp [hk]) hs (by omega)) ?_
   refine TrL.item 10 (by decide) (nd_a (by simp [hk,hs]) hp (by omega)) ?_
   exact TrL.item 11 (by decide) (nd_b (by simp [hk,hs,hp]) hu hl (by omega)) (TrL.nil rfl)
  cases u with
  |true=>exact TrL.itemsX (no0_ok [(20,false)]) 60 7 _ 4 (by decide) (s1:=⟨ndT,[.b [.sl 3 0 0 1 1 1 false true,.bool false],.b (bxL true nm k s p un),.b [.ints .u8 1 [1]],.b [.ints .u8 1 [1]]],true⟩) _ (nd_hu nm k s p un) (nd_hu' nm k s p un) (by rw [hr,decide_eq_true (show un.length≤274877906944 by omega)];rfl) (by decide) rfl (nd_start (h2:=[]) tail)
  |false=>exact TrL.itemsX (no0_ok [(20,false),(13,false)]) 60 7 _ 4 (by decide) (s1:=⟨ndT,[.b [.sl 3 0 0 1 1 1 false true,.bool false],.b (bxL false nm k s p un),.b [.ints .u8 1 [0]],.b [.ints .u8 1 [0]]],true⟩) _ (nd_hz nm k s p un) (nd_hz' nm k s p un) (by rw [hr,show zeroB nm k s p un=true by simpa using hz,decide_eq_true (show un.length≤274877906944 by omega)];rfl) (by decide) rfl (nd_start (h2:=[]) tail)
 rw [←hW] at g
 refine g.post ?_
 have q:=Ent.swap (k:=1) (t:=[some (.tup [])]) (h:=(ndM u nm k s p un (nodeW u nm k s p un).length (nodeW u nm k s p un)).h) (o:=true) (o':=true) 1 2 (by decide) (by decide) rfl rfl rfl
 exact (q.trans (Ent.same (s':=⟨[some (.tup [])],[.b [.sl 1 0 0 1 (nodeW u nm k s p un).length (nodeW u nm k s p un).length false true,.bool false],.b [.ints .u8 (nodeW u nm k s p un).length (nodeW u nm k s p un)],.b (bxL u nm k s p un)],true⟩) rfl rfl)).trans (Ent.trunc (n:=2) (by decide) rfl)
end
noncomputable def ndeE:Entry Tryz.prog:=.mut 164 _ Tryz.func164 (by decide) rfl pickP 1 (fun us h0=>match us,h0 with
 | [.ptr 0 0 0,.agg [.bool u,.int .i64 nm,.ints .u8 32 k,.ints .u8 32 s,.ints .u8 32 p,.ro false .i64 un]],[.b [.nl (.slice none 0 0),.bool false]]=>some (.tup [],[.b [.sl 1 0 0 1 (nodeW u nm k s p un).length (nodeW u nm k s p un).length false true,.bool false],.b [.ints .u8 (nodeW u nm k s p un).length (nodeW u nm k s p un)]],nodeB u nm k s p un)
 |_,_=>none) fun us h0 v h1 e=>by
 split at e
 ·simp only [Option.some.injEq,Prod.mk.injEq] at e
  obtain ⟨rfl,rfl,h⟩:=e
  exact node_fn h
 ·cases e
noncomputable def ptInl:List (FuncId×Func):=[(165,Tryz.f165)]
theorem ptInl_ok:InlOK Tryz.prog ptInl:=InlOK.cons Tryz.func165 (by decide) InlOK.nil
noncomputable def ptC (l:List (Nat×Bool)):Ctr:=mk (P:=Tryz.prog) [ndeE] ptInl (uT l)
theorem ptC_ok (l:List (Nat×Bool)):CtrSound Tryz.prog (ptC l):=mk_sound _ ptInl_ok _ _
theorem pt_run (u:Bool) (nm:Int) (k s p un:List Int):(callS Tryz.prog (ptC [(14,false)]) 60 Tryz.f118 [nod u nm k s p un] [])=some (.tup [.sl 2 0 0 1 (nodeW u nm k s p un).length (nodeW u nm k s p un).length false true,.nl .nilIface],[.b (bxL u nm k s p un),.b [.sl 2 0 0 1 (nodeW u nm k s p un).length (nodeW u nm k s p un).length false true,.bool false],.b [.ints .u8 (nodeW u nm k s p un).length (nodeW u nm k s p un)]],andT (andT true (andT true (nodeB u nm k s p un))) (andT true !decide ((((nodeW u nm k s p un).length:Nat):Int)>65536))):=by kernel_rfl
theorem putNode_fn {u:Bool} {nm:Int} {k s p un:List Int} (h:nodeB u nm k s p un=true):FnTr Tryz.prog 118 [nod u nm k s p un] [] (.tup [.ro true .u8 (nodeW u nm k s p un),.nl .nilIface]) []:=by
 have hL:(nodeW u nm k s p un).length≤200:=by
  have h':=h
  unfold nodeB at h'
  simp only [Bool.and_eq_true,decide_eq_true_eq] at h'
  obtain ⟨⟨⟨⟨⟨⟨⟨⟨hk,hs⟩,hp⟩,h0⟩,h1⟩,hu⟩,hr⟩,hl⟩,hz⟩:=h'
  rw [nodeW_len hk hs hp];omega
 have g:=FnTr.of_callS (h':=[.b (bxL u nm k s p un),.b [.sl 2 0 0 1 (nodeW u nm k s p un).length (nodeW u nm k s p un).length false true,.bool false],.b [.ints .u8 (nodeW u nm k s p un).length (nodeW u nm k s p un)]]) (ptC_ok [(14,false)]) Tryz.func118 (n:=60) ((pt_run u nm k s p un).trans (by
  rw [h,decide_eq_false (show ¬(((nodeW u nm k s p un).length:Nat):Int)>65536 by omega)];rfl))
 have g2:=g.sel (u:=.tup [.sl 0 0 0 1 (nodeW u nm k s p un).length (nodeW u nm k s p un).length false true,.nl .nilIface]) (new:=[.b [.ints .u8 (nodeW u nm k s p un).length (nodeW u nm k s p un)]]) [2] rfl
 generalize nodeW u nm k s p un=l at g2
 exact FnTr.fz 0 0 (by simp) (by simp) g2 (u:=.tup [.ro true .u8 l,.nl .nilIface]) (h2:=[]) (p:=andT (decide (l.length=l.length)) (([some (SV.tup [.sl 0 0 0 1 l.length l.length false true,.nl .nilIface])]:List (Option SV)).all fun o=>match o with|some v=>fzO 0 l.length v|none=>true)) rfl (by simp [fzO,fzOL,andT])
noncomputable def putNodeE:Entry Tryz.prog:=.val 118 _ Tryz.func118 (by decide) rfl true 0 (fun vs=>match vs with
 | [.agg [.bool u,.int .i64 nm,.ints .u8 32 k,.ints .u8 32 s,.ints .u8 32 p,.ro false .i64 un]]=>some (.tup [.ro true .u8 (nodeW u nm k s p un),.nl .nilIface],[],nodeB u nm k s p un)
 |_=>none) fun vs v new e=>by
 split at e
 ·simp only [Option.some.injEq,Prod.mk.injEq] at e
  obtain ⟨rfl,rfl,h⟩:=e
  exact putNode_fn h
 ·cases e
end Go.Proofs.YthlnlcijnoadcaaGreatDoor.Wi
end
