/- This file holds the texts WiA, WiB, a section each. No conditions beyond those in the theorems. -/
import Derived.Test.YthlnlcijnoadcaaGreatDoorFSxF
import Derived.Test.YthlnlcijnoadcaaGreatDoorFTtB
set_option linter.all false
set_option maxRecDepth 100000
section
namespace Go.Proofs.YthlnlcijnoadcaaGreatDoor.Wi
open Go Go.Sy Tr
def apQ (t:Nat):Nat→Nat:=fun i=>match Nat.beq i (1000000000+t) with
 |true=>1
 |false=>0
noncomputable def pnC (l:List (Nat×Bool)) (t d:Nat):Ctr:=Ctr.withNb (mk (P:=Tryz.prog) [] [] (uT l) fun i=>Nat.beq i d) (apQ t)
theorem pnC_ok (l:List (Nat×Bool)) (t d:Nat):CtrSound Tryz.prog (pnC l t d):=Ctr.withNb_ok (mk_sound _ InlOK.nil _ _) _
abbrev pnI (n c:Nat) (xs:List Int) (bad:Bool):List Blk:=[.b [.sl 1 0 0 1 n c true true,.bool bad],.b [.ints .u8 n xs]]
abbrev pnM (n:Nat) (xs:List Int) (bad:Bool):List Blk:=[.b [.sl 2 0 0 1 n n false true,.bool bad],.b [],.b [.ints .u8 n xs]]
def byN (x:Int):Int:=IntKind.u8.wrap (shrI IntKind.i64 x (IntKind.i64.wrap (8*IntKind.i64.wrap (1-1))).toNat)
theorem nb_i (n c:Nat) (xs:List Int) (bad:Bool) (x most:Int):(callS Tryz.prog (pnC [(10,false),(14,false)] 0 0) 60 Tryz.f205 [.ptr 0 0 0,.int .i64 x,.int .i64 1,.int .i64 most] (pnI n c xs bad))=some (.tup [],pnI (n+1) c (xs++[byN x]) bad++[.b [.ints .u8 1 [byN x]]],andT (andT (andT (andT true !decide (x<0)) !decide (x>most)) (decide (0≤IntKind.i64.wrap (8*IntKind.i64.wrap (1-1))))) (andT (andT (andT (decide (((List.replicate 1 0).set 0 (IntKind.u8.wrap (shrI IntKind.i64 x (IntKind.i64.wrap (8*IntKind.i64.wrap (1-1))).toNat))).length=1)&&true) true) (decide (n+1≤c))) (decide (xs.length=n)&&decide (n=n)&&decide (((List.replicate 1 0).set 0 (IntKind.u8.wrap (shrI IntKind.i64 x (IntKind.i64.wrap (8*IntKind.i64.wrap (1-1))).toNat))).length=1)))):=by kernel_rfl
theorem nb_m (n c:Nat) (xs:List Int) (bad:Bool) (x most:Int):(callS Tryz.prog (pnC [(10,false),(14,false),(36,false)] 29 0) 60 Tryz.f205 [.ptr 0 0 0,.int .i64 x,.int .i64 1,.int .i64 most] (pnI n c xs bad))=some (.tup [],[.b [.sl 3 0 0 1 (n+1) (n+1) false true,.bool bad],.b [.ints .u8 n xs],.b [.ints .u8 1 [byN x]],.b [.ints .u8 (n+1) (xs++[byN x])]],andT (andT (andT (andT true !decide (x<0)) !decide (x>most)) (decide (0≤IntKind.i64.wrap (8*IntKind.i64.wrap (1-1))))) (andT (andT (andT (andT (andT (decide (((List.replicate 1 0).set 0 (IntKind.u8.wrap (shrI IntKind.i64 x (IntKind.i64.wrap (8*IntKind.i64.wrap (1-1))).toNat))).length=1)&&true) (decide (xs.length=n)&&(decide (n≤n)&&true))) (decide (xs.length=n))) true) (decide (n+1≤2^38))) (decide (c<n+1)))):=by kernel_rfl
theorem by_i (n c:Nat) (xs ys:List Int) (bad:Bool):(callS Tryz.prog (pnC [] 0 10) 60 Tryz.f204 [.ptr 0 0 0,.ro false .u8 ys] (pnI n c xs bad))=some (.tup [],pnI (n+ys.length) c (xs++ys) bad,andT true (andT (andT true (decide (n+ys.length≤c))) (decide (xs.length=n)&&decide (n=n)&&decide (ys.length=ys.length)))):=by kernel_rfl
theorem by_m (n c:Nat) (xs ys:List Int) (bad:Bool):(callS Tryz.prog (pnC [] 0 0) 60 Tryz.f204 [.ptr 0 0 0,.ro false .u8 ys] (pnI n c xs bad))=some (.tup [],[.b [.sl 2 0 0 1 (n+ys.length) (n+ys.length) false true,.bool bad],.b [.ints .u8 n xs],.b [.ints .u8 (n+ys.length) (xs++ys)]],andT true (andT (andT (andT (andT true (decide (xs.length=n)&&(decide (n≤n)&&true))) (decide (xs.length=n))) (decide (n+ys.length≤2^38))) (decide (c<n+ys.length)))):=by kernel_rfl
theorem by_0 (ys:List Int) (bad:Bool):(callS Tryz.prog (pnC [] 0 0) 60 Tryz.f204 [.ptr 0 0 0,.ro false .u8 ys] [.b [.nl (.slice none 0 0),.bool bad]])=some (.tup [],[.b [.sl 1 0 0 1 ys.length ys.length false true,.bool bad],.b [.ints .u8 ys.length ys]],andT true (andT true (decide (ys.length≤2^38)))):=by kernel_rfl
section
variable {n c:Nat} {xs ys:List Int} {bad:Bool} {x most:Int}
theorem number_i (hl:xs.length=n) (h0:0≤x) (h1:x≤most) (hc:n+1≤c):FnTr Tryz.prog 205 [.ptr 0 0 0,.int .i64 x,.int .i64 1,.int .i64 most] (pnI n c xs bad) (.tup []) (pnI (n+1) c (xs++[byN x]) bad):=by
 refine callM (pnC_ok _ _ _) 60 Tryz.func205 2 (Nat.le_refl _) (by rw [nb_i];rfl) ?_ rfl rfl
 rw [decide_eq_false (show ¬x<0 by omega),decide_eq_false (show ¬x>most by omega),decide_eq_true hc,decide_eq_true hl,decide_eq_true (Eq.refl n)]
 rfl
theorem number_m (hl:xs.length=n) (h0:0≤x) (h1:x≤most) (hc:c<n+1) (hn:n+1≤2^38):FnTr Tryz.prog 205 [.ptr 0 0 0,.int .i64 x,.int .i64 1,.int .i64 most] (pnI n c xs bad) (.tup []) (pnM (n+1) (xs++[byN x]) bad):=by
 have g:FnTr Tryz.prog 205 [.ptr 0 0 0,.int .i64 x,.int .i64 1,.int .i64 most] (pnI n c xs bad) (.tup []) [.b [.sl 3 0 0 1 (n+1) (n+1) false true,.bool bad],.b [.ints .u8 n xs],.b [.ints .u8 1 [byN x]],.b [.ints .u8 (n+1) (xs++[byN x])]]:=by
  refine FnTr.of_callS (pnC_ok _ _ _) Tryz.func205 (n:=60) ((nb_m n c xs bad x most).trans ?_)
  rw [decide_eq_false (show ¬x<0 by omega),decide_eq_false (show ¬x>most by omega),decide_eq_true hc,decide_eq_true hl,decide_eq_true (Nat.le_refl n),decide_eq_true hn]
  rfl
 have q:=Ent.swap (k:=2) (t:=[some (.tup [])]) (h:=[.b [.sl 3 0 0 1 (n+1) (n+1) false true,.bool bad],.b [.ints .u8 n xs],.b [.ints .u8 1 [byN x]],.b [.ints .u8 (n+1) (xs++[byN x])]]) (o:=true) (o':=true) 2 3 (Nat.le_refl _) (by decide) rfl rfl rfl
 refine g.post ((q.trans (Ent.same (s':=⟨[some (.tup [])],[.b [.sl 2 0 0 1 (n+1) (n+1) false true,.bool bad],.b [.ints .u8 n xs],.b [.ints .u8 (n+1) (xs++[byN x])],.b [.ints .u8 1 [byN x]]],true⟩) rfl rfl)).trans ((Ent.forget 1 rfl).trans (Ent.trunc (n:=3) (by decide) rfl)))
theorem bytes_i (hl:xs.length=n) (hc:n+ys.length≤c):FnTr Tryz.prog 204 [.ptr 0 0 0,.ro false .u8 ys] (pnI n c xs bad) (.tup []) (pnI (n+ys.length) c (xs++ys) bad):=by
 refine FnTr.of_callS (pnC_ok _ _ _) Tryz.func204 (n:=60) ((by_i n c xs ys bad).trans ?_)
 rw [decide_eq_true hc,decide_eq_true hl,decide_eq_true (Eq.refl n),decide_eq_true (Eq.refl ys.length)]
 rfl
theorem bytes_m (hl:xs.length=n) (hc:c<n+ys.length) (hn:n+ys.length≤2^38):FnTr Tryz.prog 204 [.ptr 0 0 0,.ro false .u8 ys] (pnI n c xs bad) (.tup []) (pnM (n+ys.length) (xs++ys) bad):=by
 have g:FnTr Tryz.prog 204 [.ptr 0 0 0,.ro false .u8 ys] (pnI n c xs bad) (.tup []) [.b [.sl 2 0 0 1 (n+ys.length) (n+ys.length) false true,.bool bad],.b [.ints .u8 n xs],.b [.ints .u8 (n+ys.length) (xs++ys)]]:=by
  refine FnTr.of_callS (pnC_ok _ _ _) Tryz.func204 (n:=60) ((by_m n c xs ys bad).trans ?_)
  rw [decide_eq_true hc,decide_eq_true hl,decide_eq_true (Nat.le_refl n),decide_eq_true hn]
  rfl
 exact g.post (Ent.forget 1 rfl)
theorem bytes_0 (hn:ys.length≤2^38):FnTr Tryz.prog 204 [.ptr 0 0 0,.ro false .u8 ys] [.b [.nl (.slice none 0 0),.bool bad]] (.tup []) [.b [.sl 1 0 0 1 ys.length ys.length false true,.bool bad],.b [.ints .u8 ys.length ys]]:=by
 refine FnTr.of_callS (pnC_ok _ _ _) Tryz.func204 (n:=60) ((by_0 ys bad).trans ?_)
 rw [decide_eq_true hn];rfl
end
def penB (m:Bool) (n c:Nat) (xs ys:List Int) (b:Bool):List Blk:=match m with
 |true=>pnM (n+ys.length) (xs++ys) b
 |false=>pnI (n+ys.length) c (xs++ys) b
def penO (m:Bool) (n n' c:Nat) (xs ys:List Int):Bool:=decide (n=n')&&decide (xs.length=n)&&decide (n+ys.length≤2^38)&&(match m with
 |true=>decide (c<n+ys.length)
 |false=>decide (n+ys.length≤c))
theorem penO_iff {m:Bool} {n n' c:Nat} {xs ys:List Int} (h:penO m n n' c xs ys=true):n=n'∧xs.length=n∧n+ys.length≤2^38∧(if m=true then c<n+ys.length else n+ys.length≤c):=by
 unfold penO at h
 simp only [Bool.and_eq_true,decide_eq_true_eq] at h
 refine ⟨h.1.1.1,h.1.1.2,h.1.2,?_⟩
 cases m
 ·rw [if_neg (by simp)];exact of_decide_eq_true h.2
 ·rw [if_pos rfl];exact of_decide_eq_true h.2
theorem penO_mk {m:Bool} {n c:Nat} {xs ys:List Int} (h1:xs.length=n) (h2:n+ys.length≤2^38) (h3:match m with|true=>c<n+ys.length|false=>n+ys.length≤c):penO m n n c xs ys=true:=by
 unfold penO
 rw [decide_eq_true rfl,decide_eq_true h1,decide_eq_true h2]
 cases m
 ·exact decide_eq_true h3
 ·exact decide_eq_true h3
def nbM:Bool→Nat
 |true=>1
 |false=>0
def pickP:List SV→List Blk→List Nat
 | .ptr b _ _::_,h=>match h[b]? with
  |some (.b [.sl d _ _ _ _ _ _ _,_])=>[b,d]
  |_=>[b]
 |_,_=>[]
noncomputable def numF (m:Bool):List SV→List Blk→Option (SV×List Blk×Bool)
 | [.ptr 0 0 0,.int .i64 x,.int .i64 1,.int .i64 most],[.b [.sl 1 0 0 1 n c true true,.bool b],.b [.ints .u8 n' xs]]=>some (.tup [],penB m n c xs [byN x] b,penO m n n' c xs [byN x]&&decide (0≤x)&&decide (x≤most))
 |_,_=>none
noncomputable def numE (m:Bool):Entry Tryz.prog:=.mut 205 _ Tryz.func205 (by decide) rfl pickP (nbM m) (numF m) fun us h0 v h1 e=>by
 unfold numF at e
 split at e
 ·simp only [Option.some.injEq,Prod.mk.injEq,Bool.and_eq_true,decide_eq_true_eq] at e
  obtain ⟨rfl,rfl,⟨h,h2⟩,h3⟩:=e
  obtain ⟨rfl,q1,q2,q3⟩:=penO_iff h
  cases m
  ·exact number_i q1 h2 h3 (by simpa using q3)
  ·exact number_m q1 h2 h3 (by simpa using q3) q2
 ·cases e
noncomputable def bytF (m:Bool):List SV→List Blk→Option (SV×List Blk×Bool)
 | [.ptr 0 0 0,.ro false .u8 ys],[.b [.sl 1 0 0 1 n c true true,.bool b],.b [.ints .u8 n' xs]]=>some (.tup [],penB m n c xs ys b,penO m n n' c xs ys)
 |_,_=>none
noncomputable def bytE (m:Bool):Entry Tryz.prog:=.mut 204 _ Tryz.func204 (by decide) rfl pickP (nbM m) (bytF m) fun us h0 v h1 e=>by
 unfold bytF at e
 split at e
 ·simp only [Option.some.injEq,Prod.mk.injEq] at e
  obtain ⟨rfl,rfl,h⟩:=e
  obtain ⟨rfl,q1,q2,q3⟩:=penO_iff h
  cases m
  ·exact bytes_i q1 (by simpa using q3)
  ·exact bytes_m q1 (by simpa using q3) q2
 ·cases e
noncomputable def byt0E:Entry Tryz.prog:=.mut 204 _ Tryz.func204 (by decide) rfl pickP 1 (fun us h0=>match us,h0 with
 | [.ptr 0 0 0,.ro false .u8 ys],[.b [.nl (.slice none 0 0),.bool b]]=>some (.tup [],[.b [.sl 1 0 0 1 ys.length ys.length false true,.bool b],.b [.ints .u8 ys.length ys]],decide (ys.length≤2^38))
 |_,_=>none) fun us h0 v h1 e=>by
 split at e
 ·simp only [Option.some.injEq,Prod.mk.injEq,decide_eq_true_eq] at e
  obtain ⟨rfl,rfl,h⟩:=e
  exact bytes_0 h
 ·cases e
noncomputable def seC (m:Bool):Ctr:=mk (P:=Tryz.prog) [numE m] [] (uT [])
theorem seC_ok (m:Bool):CtrSound Tryz.prog (seC m):=mk_sound _ InlOK.nil _ _
theorem se_i (n c:Nat) (xs:List Int) (bad:Bool) (x:Int):(callS Tryz.prog (seC false) 60 Tryz.f207 [.ptr 0 0 0,.int .i64 x] (pnI n c xs bad))=some (.tup [],pnI (n+1) c (xs++[byN x]) bad,andT true (andT true (penO false n n c xs [byN x]&&decide (0≤x)&&decide (x≤31)))):=by kernel_rfl
theorem se_m (n c:Nat) (xs:List Int) (bad:Bool) (x:Int):(callS Tryz.prog (seC true) 60 Tryz.f207 [.ptr 0 0 0,.int .i64 x] (pnI n c xs bad))=some (.tup [],pnM (n+1) (xs++[byN x]) bad,andT true (andT true (penO true n n c xs [byN x]&&decide (0≤x)&&decide (x≤31)))):=by kernel_rfl
theorem seat_i {n c:Nat} {xs:List Int} {bad:Bool} {x:Int} (hl:xs.length=n) (h0:0≤x) (h1:x≤31) (hc:n+1≤c) (hn:n+1≤2^38):FnTr Tryz.prog 207 [.ptr 0 0 0,.int .i64 x] (pnI n c xs bad) (.tup []) (pnI (n+1) c (xs++[byN x]) bad):=by
 refine FnTr.of_callS (seC_ok _) Tryz.func207 (n:=60) ((se_i n c xs bad x).trans ?_)
 rw [penO_mk (ys:=[byN x]) hl hn (m:=false) hc,decide_eq_true h0,decide_eq_true h1];rfl
theorem seat_m {n c:Nat} {xs:List Int} {bad:Bool} {x:Int} (hl:xs.length=n) (h0:0≤x) (h1:x≤31) (hc:c<n+1) (hn:n+1≤2^38):FnTr Tryz.prog 207 [.ptr 0 0 0,.int .i64 x] (pnI n c xs bad) (.tup []) (pnM (n+1) (xs++[byN x]) bad):=by
 refine FnTr.of_callS (seC_ok _) Tryz.func207 (n:=60) ((se_m n c xs bad x).trans ?_)
 rw [penO_mk (ys:=[byN x]) hl hn (m:=true) hc,decide_eq_true h0,decide_eq_true h1];rfl
noncomputable def seaF (m:Bool):List SV→List Blk→Option (SV×List Blk×Bool)
 | [.ptr 0 0 0,.int .i64 x],[.b [.sl 1 0 0 1 n c true true,.bool b],.b [.ints .u8 n' xs]]=>some (.tup [],penB m n c xs [byN x] b,penO m n n' c xs [byN x]&&decide (0≤x)&&decide (x≤31))
 |_,_=>none
noncomputable def seaE (m:Bool):Entry Tryz.prog:=.mut 207 _ Tryz.func207 (by decide) rfl pickP (nbM m) (seaF m) fun us h0 v h1 e=>by
 unfold seaF at e
 split at e
 ·simp only [Option.some.injEq,Prod.mk.injEq,Bool.and_eq_true,decide_eq_true_eq] at e
  obtain ⟨rfl,rfl,⟨h,h2⟩,h3⟩:=e
  obtain ⟨rfl,q1,q2,q3⟩:=penO_iff h
  cases m
  ·exact seat_i q1 h2 h3 (by simpa using q3) q2
  ·exact seat_m q1 h2 h3 (by simpa using q3) q2
 ·cases e
end Go.Proofs.YthlnlcijnoadcaaGreatDoor.Wi
end
section
namespace Go.Proofs.YthlnlcijnoadcaaGreatDoor.Wi
open Go Go.Sy Tr
noncomputable def liC (m:Bool) (l:List (Nat×Bool)):Ctr:=Ctr.withNb (mk (P:=Tryz.prog) [numE m,seaE m] [] (uT l)) fun i=>match Nat.beq i 25 with
 |true=>nbM m
 |false=>0
theorem liC_ok (m:Bool) (l:List (Nat×Bool)):CtrSound Tryz.prog (liC m l):=Ctr.withNb_ok (mk_sound _ InlOK.nil _ _) _
noncomputable def liB:Code:=bodyOf Tryz.f206
noncomputable def liS (un:List Int) (i:Int) (h:List Blk):St:=⟨slotsOf 30 [(0,.ptr 0 0 0),(3,.fn (.func 207) [] []),(15,.ro false .i64 un),(16,.int .i64 un.length),(17,.int .i64 i)],h,true⟩
abbrev pnC2 (n c:Nat) (xs:List Int) (bad:Bool):List Blk:=[.b [.sl 2 0 0 1 n c true true,.bool bad],.b [],.b [.ints .u8 n xs]]
theorem li_hi (un:List Int) (n c:Nat) (xs:List Int) (most:Int):resX (cutR [0,3,15,16,17] 2 ((execL Tryz.prog (liC false []) 60 2 2 (atoms liB) ⟨slots0 Tryz.f206.ntmps [.ptr 0 0 0,.ro false .i64 un,.int .i64 most,.fn (.func 207) [] []],pnI n c xs false,true⟩).map fun s=>(Exit.normal,s)))=some (.normal,(liS un 0 []).t,pnI (n+1) c (xs++[byN un.length]) false):=by kernel_rfl
theorem li_hi' (un:List Int) (n c:Nat) (xs:List Int) (most:Int):obX (cutR [0,3,15,16,17] 2 ((execL Tryz.prog (liC false []) 60 2 2 (atoms liB) ⟨slots0 Tryz.f206.ntmps [.ptr 0 0 0,.ro false .i64 un,.int .i64 most,.fn (.func 207) [] []],pnI n c xs false,true⟩).map fun s=>(Exit.normal,s)))=(andT true (andT true (penO false n n c xs [byN ((un.length:Nat):Int)]&&true&&decide (((un.length:Nat):Int)≤most)))):=by kernel_rfl
theorem li_hm (un:List Int) (n c:Nat) (xs:List Int) (most:Int):resX (cutR [0,3,15,16,17] 3 ((execL Tryz.prog (liC true []) 60 2 2 (atoms liB) ⟨slots0 Tryz.f206.ntmps [.ptr 0 0 0,.ro false .i64 un,.int .i64 most,.fn (.func 207) [] []],pnI n c xs false,true⟩).map fun s=>(Exit.normal,s)))=some (.normal,(liS un 0 []).t,pnM (n+1) (xs++[byN un.length]) false):=by kernel_rfl
theorem li_hm' (un:List Int) (n c:Nat) (xs:List Int) (most:Int):obX (cutR [0,3,15,16,17] 3 ((execL Tryz.prog (liC true []) 60 2 2 (atoms liB) ⟨slots0 Tryz.f206.ntmps [.ptr 0 0 0,.ro false .i64 un,.int .i64 most,.fn (.func 207) [] []],pnI n c xs false,true⟩).map fun s=>(Exit.normal,s)))=(andT true (andT true (penO true n n c xs [byN ((un.length:Nat):Int)]&&true&&decide (((un.length:Nat):Int)≤most)))):=by kernel_rfl
theorem li_ii (un:List Int) (n c:Nat) (xs:List Int) (i:Int):resX (cutR [0,3,15,16,17] 2 (exec Tryz.prog (liC false [(18,true)]) 60 2 (inner (inner (nthC 2 liB))) (liS un i (pnI n c xs false))))=some (.normal,(liS un (IntKind.i64.wrap (i+1)) []).t,pnI (n+1) c (xs++[byN (un.getD i.toNat 0)]) false):=by kernel_rfl
theorem li_ii' (un:List Int) (n c:Nat) (xs:List Int) (i:Int):obX (cutR [0,3,15,16,17] 2 (exec Tryz.prog (liC false [(18,true)]) 60 2 (inner (inner (nthC 2 liB))) (liS un i (pnI n c xs false))))=(andT (andT (andT (andT true (decide (i<((un.length:Nat):Int)))) (inB i un.length)) (decide (i.toNat<un.length))) (andT true (penO false n n c xs [byN (un.getD i.toNat 0)]&&decide (0≤un.getD i.toNat 0)&&decide (un.getD i.toNat 0≤31)))):=by kernel_rfl
theorem li_im (un:List Int) (n c:Nat) (xs:List Int) (i:Int):resX (cutR [0,3,15,16,17] 3 (exec Tryz.prog (liC true [(18,true)]) 60 2 (inner (inner (nthC 2 liB))) (liS un i (pnI n c xs false))))=some (.normal,(liS un (IntKind.i64.wrap (i+1)) []).t,pnM (n+1) (xs++[byN (un.getD i.toNat 0)]) false):=by kernel_rfl
theorem li_im' (un:List Int) (n c:Nat) (xs:List Int) (i:Int):obX (cutR [0,3,15,16,17] 3 (exec Tryz.prog (liC true [(18,true)]) 60 2 (inner (inner (nthC 2 liB))) (liS un i (pnI n c xs false))))=(andT (andT (andT (andT true (decide (i<((un.length:Nat):Int)))) (inB i un.length)) (decide (i.toNat<un.length))) (andT true (penO true n n c xs [byN (un.getD i.toNat 0)]&&decide (0≤un.getD i.toNat 0)&&decide (un.getD i.toNat 0≤31)))):=by kernel_rfl
theorem li_mi (un:List Int) (n c:Nat) (xs:List Int) (i:Int):resX (cutR [0,3,15,16,17] 3 (exec Tryz.prog (liC false [(18,true)]) 60 2 (inner (inner (nthC 2 liB))) (liS un i (pnC2 n c xs false))))=some (.normal,(liS un (IntKind.i64.wrap (i+1)) []).t,pnC2 (n+1) c (xs++[byN (un.getD i.toNat 0)]) false):=by kernel_rfl
theorem li_mi' (un:List Int) (n c:Nat) (xs:List Int) (i:Int):obX (cutR [0,3,15,16,17] 3 (exec Tryz.prog (liC false [(18,true)]) 60 2 (inner (inner (nthC 2 liB))) (liS un i (pnC2 n c xs false))))=(andT (andT (andT (andT true (decide (i<((un.length:Nat):Int)))) (inB i un.length)) (decide (i.toNat<un.length))) (andT true (penO false n n c xs [byN (un.getD i.toNat 0)]&&decide (0≤un.getD i.toNat 0)&&decide (un.getD i.toNat 0≤31)))):=by kernel_rfl
theorem li_mm (un:List Int) (n c:Nat) (xs:List Int) (i:Int):resX (cutR [0,3,15,16,17] 4 (exec Tryz.prog (liC true [(18,true)]) 60 2 (inner (inner (nthC 2 liB))) (liS un i (pnC2 n c xs false))))=some (.normal,(liS un (IntKind.i64.wrap (i+1)) []).t,[.b [.sl 3 0 0 1 (n+1) (n+1) false true,.bool false],.b [],.b [],.b [.ints .u8 (n+1) (xs++[byN (un.getD i.toNat 0)])]]):=by kernel_rfl
theorem li_mm' (un:List Int) (n c:Nat) (xs:List Int) (i:Int):obX (cutR [0,3,15,16,17] 4 (exec Tryz.prog (liC true [(18,true)]) 60 2 (inner (inner (nthC 2 liB))) (liS un i (pnC2 n c xs false))))=(andT (andT (andT (andT true (decide (i<((un.length:Nat):Int)))) (inB i un.length)) (decide (i.toNat<un.length))) (andT true (penO true n n c xs [byN (un.getD i.toNat 0)]&&decide (0≤un.getD i.toNat 0)&&decide (un.getD i.toNat 0≤31)))):=by kernel_rfl
theorem li_ei (un:List Int) (n c:Nat) (xs:List Int) (i:Int):resX (cutR [0] 2 (exec Tryz.prog (liC false [(18,false)]) 60 2 (inner (inner (nthC 2 liB))) (liS un i (pnI n c xs false))))=some (.exit 0,slotsOf 30 [(0,.ptr 0 0 0)],pnI n c xs false):=by kernel_rfl
theorem li_ei' (un:List Int) (n c:Nat) (xs:List Int) (i:Int):obX (cutR [0] 2 (exec Tryz.prog (liC false [(18,false)]) 60 2 (inner (inner (nthC 2 liB))) (liS un i (pnI n c xs false))))=(andT true !decide (i<((un.length:Nat):Int))):=by kernel_rfl
theorem li_em (un:List Int) (n:Nat) (xs:List Int) (i:Int):resX (cutR [0] 3 (exec Tryz.prog (liC false [(18,false)]) 60 2 (inner (inner (nthC 2 liB))) (liS un i (pnM n xs false))))=some (.exit 0,slotsOf 30 [(0,.ptr 0 0 0)],pnM n xs false):=by kernel_rfl
theorem li_em' (un:List Int) (n:Nat) (xs:List Int) (i:Int):obX (cutR [0] 3 (exec Tryz.prog (liC false [(18,false)]) 60 2 (inner (inner (nthC 2 liB))) (liS un i (pnM n xs false))))=(andT true !decide (i<((un.length:Nat):Int))):=by kernel_rfl
def liK (un:List Int) (i:Nat):List Int:=byN ((un.length:Nat):Int)::(un.take i).map byN
def liW (un:List Int):List Int:=byN ((un.length:Nat):Int)::un.map byN
theorem liK_len {un:List Int} {i:Nat} (h:i≤un.length):(liK un i).length=1+i:=by unfold liK;rw [List.length_cons,List.length_map,List.length_take];omega
theorem liK_end (un:List Int):liK un un.length=liW un:=by unfold liK liW;rw [List.take_length]
theorem liW_len (un:List Int):(liW un).length=1+un.length:=by unfold liW;rw [List.length_cons,List.length_map];omega
theorem liK_succ {un:List Int} {i:Nat} (h:i<un.length):liK un i++[byN (un.getD i 0)]=liK un (i+1):=by
 unfold liK
 rw [List.cons_append,List.take_add_one,List.getElem?_eq_getElem h,List.map_append,getD_get h];rfl
theorem app1 {n i:Nat} {un xs:List Int} (hl:xs.length=n) (h:i<un.length):xs++liK un i++[byN (un.getD i 0)]=xs++liK un (i+1):=by rw [List.append_assoc,liK_succ h]
def unOK (un:List Int):Bool:=un.all fun u=>decide (0≤u)&&decide (u≤31)
theorem unOK_get {un:List Int} (h:unOK un=true) {i:Nat} (hi:i<un.length):decide (0≤un.getD i 0)=true∧decide (un.getD i 0≤31)=true:=by
 have:=List.all_eq_true.1 h (un.getD i 0) (by rw [getD_get hi];exact List.getElem_mem hi)
 simpa only [Bool.and_eq_true] using this
section
variable {n c:Nat} {xs un:List Int} {most:Int}
theorem liK_app {i:Nat} (hl:xs.length=n) (hi:i≤un.length):(xs++liK un i).length=n+(1+i):=by rw [List.length_append,hl,liK_len hi]
theorem li_obs {i n':Nat} (hu:unOK un=true) (hi:i<un.length) {b:Bool} (hb:b=true):(andT (andT (andT (andT true (decide (((i:Nat):Int)<((un.length:Nat):Int)))) (inB ((i:Nat):Int) un.length)) (decide (((i:Nat):Int).toNat<un.length))) (andT true (b&&decide (0≤un.getD ((i:Nat):Int).toNat 0)&&decide (un.getD ((i:Nat):Int).toNat 0≤31))))=true:=by
 obtain ⟨h1,h2⟩:=unOK_get hu hi
 rw [Int.toNat_natCast,ltN hi,inBN hi,decide_eq_true hi,h1,h2,hb];rfl
theorem list_i (hl:xs.length=n) (hu:unOK un=true) (hm:(un.length:Int)≤most) (hc:n+(1+un.length)≤c) (hn:n+(1+un.length)≤2^38):
  FnTr Tryz.prog 206 [.ptr 0 0 0,.ro false .i64 un,.int .i64 most,.fn (.func 207) [] []] (pnI n c xs false) (.tup []) (pnI (n+(1+un.length)) c (xs++liW un) false):=by
 refine FnTr.toEnd (h:=pnI n c xs false) Tryz.func206 rfl 2 0 (fun i=>liS un ((i:Nat):Int) (pnI (n+(1+i)) c (xs++liK un i) false)) un.length
  (fun y s' g=>TrL.itemsX (liC_ok false []) 60 2 _ 2 (Nat.le_refl 2) (s1:=liS un ((0:Nat):Int) (pnI (n+(1+0)) c (xs++liK un 0) false)) _ (li_hi un n c xs most) (li_hi' un n c xs most) (by rw [penO_mk (m:=false) (ys:=[byN ((un.length:Nat):Int)]) hl (by show n+1≤2^38;omega) (by show n+1≤c;omega),decide_eq_true hm];rfl) (by decide) rfl g) (by decide) (by kernel_rfl)
  (fun i hi=>?_) (sE:=⟨slotsOf 30 [(0,.ptr 0 0 0)],pnI (n+(1+un.length)) c (xs++liW un) false,true⟩) (s':=⟨slotsOf 30 [(0,.ptr 0 0 0)],pnI (n+(1+un.length)) c (xs++liW un) false,true⟩) (x:=.normal) (v:=[]) ?_ ⟨rfl,rfl⟩ (.inr rfl) rfl
 ·have e:=li_ii un (n+(1+i)) c (xs++liK un i) i
  rw [Int.toNat_natCast,wrapS (by omega),app1 hl hi,show n+(1+i)+1=n+(1+(i+1)) by omega] at e
  exact Tr.cutX (liC_ok false [(18,true)]) 60 _ 2 (Nat.le_refl 2) (s':=liS un ((i+1:Nat):Int) (pnI (n+(1+(i+1))) c (xs++liK un (i+1)) false)) _ e (li_ii' un _ c _ i) (li_obs (n':=0) hu hi (penO_mk (m:=false) (ys:=[_]) (liK_app hl (by omega)) (by show n+(1+i)+1≤2^38;omega) (by show n+(1+i)+1≤c;omega)))
 ·rw [←liK_end]
  exact Tr.cutX (liC_ok false [(18,false)]) 60 _ 2 (Nat.le_refl 2) _ (li_ei un _ c _ un.length) (li_ei' un _ c _ un.length) (by rw [nltN (Nat.le_refl _)];rfl)
noncomputable def liG (un xs:List Int) (n c i:Nat):St:=liS un ((i:Nat):Int) (if n+(1+i)≤c then pnI (n+(1+i)) c (xs++liK un i) false else pnM (n+(1+i)) (xs++liK un i) false)
theorem li_move {i:Nat} (hl:xs.length=n) (hu:unOK un=true) (hi:i<un.length) (hn:n+(1+un.length)≤2^38):Tr Tryz.prog none 2 (inner (inner (nthC 2 liB))) (liS un ((i:Nat):Int) (pnM (n+(1+i)) (xs++liK un i) false)) .normal (liS un ((i+1:Nat):Int) (pnM (n+(1+(i+1))) (xs++liK un (i+1)) false)):=by
 refine Tr.anyC (b:=0) (pre:=[]) (post:=[.bool false]) (wh:=true) rfl fun cc hcc=>?_
 have hlen:=liK_app (un:=un) (i:=i) hl (by omega)
 have a1:=app1 (un:=un) (i:=i) hl hi
 by_cases hc:n+(1+i)+1≤cc
 ·have e:=li_mi un (n+(1+i)) cc (xs++liK un i) i
  rw [Int.toNat_natCast,wrapS (by omega),a1,show n+(1+i)+1=n+(1+(i+1)) by omega] at e
  refine Tr.post (Tr.cutX (liC_ok false [(18,true)]) 60 _ 3 (by decide) (s':=liS un ((i+1:Nat):Int) (pnC2 (n+(1+(i+1))) cc (xs++liK un (i+1)) false)) _ e (li_mi' un _ cc _ i) (li_obs (n':=0) hu hi (penO_mk (m:=false) (ys:=[_]) hlen (by show n+(1+i)+1≤2^38;omega) hc))) ?_
  refine Ent.blks ⟨⟨rfl,?_⟩,PE.refl _,PE.refl _,trivial⟩
  rintro e us ⟨y,zs,hy,hz,rfl⟩
  refine ⟨y,zs,?_,hz,rfl⟩
  rcases hy with h|⟨p,c',a,h1,h2,h3,h4,h5,h6,h7⟩
  ·exact .inl ⟨h.1,h.1,h.2.2⟩
  ·exact .inr ⟨p,c',a,h1,h2,h3,h6,(by simp),h6,h7⟩
 ·have e:=li_mm un (n+(1+i)) cc (xs++liK un i) i
  rw [Int.toNat_natCast,wrapS (by omega),a1,show n+(1+i)+1=n+(1+(i+1)) by omega] at e
  refine Tr.post (Tr.cutX (liC_ok true [(18,true)]) 60 _ 4 (by decide) (s':=liS un ((i+1:Nat):Int) [.b [.sl 3 0 0 1 (n+(1+(i+1))) (n+(1+(i+1))) false true,.bool false],.b [],.b [],.b [.ints .u8 (n+(1+(i+1))) (xs++liK un (i+1))]]) _ e (li_mm' un _ cc _ i) (li_obs (n':=0) hu hi (penO_mk (m:=true) (ys:=[_]) hlen (by show n+(1+i)+1≤2^38;omega) (by show cc<n+(1+i)+1;omega)))) ?_
  have q:=Ent.swap (k:=2) (t:=(liS un ((i+1:Nat):Int) []).t) (h:=[.b [.sl 3 0 0 1 (n+(1+(i+1))) (n+(1+(i+1))) false true,.bool false],.b [],.b [],.b [.ints .u8 (n+(1+(i+1))) (xs++liK un (i+1))]]) (o:=true) (o':=true) 2 3 (Nat.le_refl _) (by decide) rfl rfl rfl
  exact (q.trans (Ent.same (s':=⟨(liS un ((i+1:Nat):Int) []).t,[.b [.sl 2 0 0 1 (n+(1+(i+1))) (n+(1+(i+1))) false true,.bool false],.b [],.b [.ints .u8 (n+(1+(i+1))) (xs++liK un (i+1))],.b []],true⟩) rfl rfl)).trans (Ent.trunc (n:=3) (by decide) rfl)
theorem list_m (hl:xs.length=n) (hu:unOK un=true) (hm:(un.length:Int)≤most) (hc:c<n+(1+un.length)) (hn:n+(1+un.length)≤2^38):
  FnTr Tryz.prog 206 [.ptr 0 0 0,.ro false .i64 un,.int .i64 most,.fn (.func 207) [] []] (pnI n c xs false) (.tup []) (pnM (n+(1+un.length)) (xs++liW un) false):=by
 refine FnTr.toEnd (h:=pnI n c xs false) Tryz.func206 rfl 2 0 (liG un xs n c) un.length
  (fun y s' g=>?_) (by decide) (by kernel_rfl)
  (fun i hi=>?_) (sE:=⟨slotsOf 30 [(0,.ptr 0 0 0)],pnM (n+(1+un.length)) (xs++liW un) false,true⟩) (s':=⟨slotsOf 30 [(0,.ptr 0 0 0)],pnM (n+(1+un.length)) (xs++liW un) false,true⟩) (x:=.normal) (v:=[]) ?_ ⟨rfl,rfl⟩ (.inr rfl) rfl
 ·by_cases h0:n+1≤c
  ·refine TrL.itemsX (liC_ok false []) 60 2 _ 2 (Nat.le_refl 2) (s1:=liS un ((0:Nat):Int) (pnI (n+(1+0)) c (xs++liK un 0) false)) _ (li_hi un n c xs most) (li_hi' un n c xs most) (by rw [penO_mk (m:=false) (ys:=[byN ((un.length:Nat):Int)]) hl (by show n+1≤2^38;omega) h0,decide_eq_true hm];rfl) (by decide) rfl ?_
   unfold liG at g
   rwa [if_pos h0] at g
  ·refine TrL.itemsX (liC_ok true []) 60 2 _ 3 (show 2≤3 by decide) (s1:=liS un ((0:Nat):Int) (pnM (n+(1+0)) (xs++liK un 0) false)) _ (li_hm un n c xs most) (li_hm' un n c xs most) (by rw [penO_mk (m:=true) (ys:=[byN ((un.length:Nat):Int)]) hl (by show n+1≤2^38;omega) (by show c<n+1;omega),decide_eq_true hm];rfl) (by decide) rfl ?_
   unfold liG at g
   rwa [if_neg h0] at g
 ·unfold liG
  have hlen:=liK_app (un:=un) (i:=i) hl (by omega)
  have a1:=app1 (un:=un) (i:=i) hl hi
  by_cases h2:n+(1+(i+1))≤c
  ·rw [if_pos h2,if_pos (show n+(1+i)≤c by omega)]
   have e:=li_ii un (n+(1+i)) c (xs++liK un i) i
   rw [Int.toNat_natCast,wrapS (by omega),a1,show n+(1+i)+1=n+(1+(i+1)) by omega] at e
   exact Tr.cutX (liC_ok false [(18,true)]) 60 _ 2 (Nat.le_refl 2) (s':=liS un ((i+1:Nat):Int) (pnI (n+(1+(i+1))) c (xs++liK un (i+1)) false)) _ e (li_ii' un _ c _ i) (li_obs (n':=0) hu hi (penO_mk (m:=false) (ys:=[_]) hlen (by show n+(1+i)+1≤2^38;omega) (by show n+(1+i)+1≤c;omega)))
  ·rw [if_neg h2]
   by_cases h1:n+(1+i)≤c
   ·rw [if_pos h1]
    have e:=li_im un (n+(1+i)) c (xs++liK un i) i
    rw [Int.toNat_natCast,wrapS (by omega),a1,show n+(1+i)+1=n+(1+(i+1)) by omega] at e
    exact Tr.cutX (liC_ok true [(18,true)]) 60 _ 3 (show 2≤3 by decide) (s':=liS un ((i+1:Nat):Int) (pnM (n+(1+(i+1))) (xs++liK un (i+1)) false)) _ e (li_im' un _ c _ i) (li_obs (n':=0) hu hi (penO_mk (m:=true) (ys:=[_]) hlen (by show n+(1+i)+1≤2^38;omega) (by show c<n+(1+i)+1;omega)))
   ·rw [if_neg h1]
    exact li_move hl hu hi hn
 ·unfold liG
  rw [if_neg (by omega), ←liK_end]
  exact Tr.cutX (liC_ok false [(18,false)]) 60 _ 3 (show 2≤3 by decide) _ (li_em un _ _ un.length) (li_em' un _ _ un.length) (by rw [nltN (Nat.le_refl _)];rfl)
end
noncomputable def lisF (m:Bool):List SV→List Blk→Option (SV×List Blk×Bool)
 | [.ptr 0 0 0,.ro false .i64 un,.int .i64 most,.fn (.func 207) [] []],[.b [.sl 1 0 0 1 n c true true,.bool false],.b [.ints .u8 n' xs]]=>some (.tup [],penB m n c xs (liW un) false,penO m n n' c xs (liW un)&&unOK un&&decide ((un.length:Int)≤most))
 |_,_=>none
noncomputable def lisE (m:Bool):Entry Tryz.prog:=.mut 206 _ Tryz.func206 (by decide) rfl pickP (nbM m) (lisF m) fun us h0 v h1 e=>by
 unfold lisF at e
 split at e
 ·rename_i un most n c n' xs
  simp only [Option.some.injEq,Prod.mk.injEq,Bool.and_eq_true,decide_eq_true_eq] at e
  obtain ⟨rfl,rfl,⟨h,h2⟩,h3⟩:=e
  obtain ⟨rfl,q1,q2,q3⟩:=penO_iff h
  rw [liW_len] at q2 q3
  cases m
  ·have:=list_i (c:=c) (most:=most) q1 h2 h3 (by simpa using q3) q2
   unfold penB
   rw [liW_len];exact this
  ·have:=list_m (c:=c) (most:=most) q1 h2 h3 (by simpa using q3) q2
   unfold penB
   rw [liW_len];exact this
 ·cases e
end Go.Proofs.YthlnlcijnoadcaaGreatDoor.Wi
end
