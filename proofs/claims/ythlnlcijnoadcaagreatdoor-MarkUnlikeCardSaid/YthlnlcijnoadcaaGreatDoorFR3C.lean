/- This file holds the texts R3A, R3B, R3C, a section each. No conditions beyond those in the theorems. -/
import Derived.Test.YthlnlcijnoadcaaGreatDoorFCcA
import Derived.Test.YthlnlcijnoadcaaGreatDoorFShF
import Derived.Test.YthlnlcijnoadcaaGreatDoorFShK
import Derived.Laws.BitsLemmas
import Derived.Lib.EndianBits
set_option linter.all false
set_option maxRecDepth 100000
section
namespace Go.Proofs.YthlnlcijnoadcaaGreatDoor.R3
open Go Go.Sy Sh
abbrev V (n:Int):Int:=IntKind.u32.wrap n
def tu (x n:Int):Int:=V (shlI .u32 x n.toNat+shrI .u32 x (IntKind.u64.wrap (32-n)).toNat)
def tuF:List SV→Option (SV×List Blk×Bool)
 | [.int .u32 x,.int .u64 n]=>some (.int .u32 (tu x n),[],decide (0≤n)&&decide (n≤32))
 |_=>none
noncomputable def tuE:Entry Tryz.prog:=.val 276 _ Tryz.func276 (by decide) rfl false 0 tuF fun vs v new e=>by
 unfold tuF at e
 split at e
 ·rename_i x n
  simp only [Option.some.injEq,Prod.mk.injEq,Bool.and_eq_true,decide_eq_true_eq] at e
  obtain ⟨rfl,rfl,h1,h2⟩:=e
  have hw:IntKind.u64.wrap (32-n)=32-n:=by simp [IntKind.wrap,IntKind.signed,IntKind.bits];omega
  exact call0 ctr0 60 Tryz.func276 (p:=andT (andT true (decide (0≤n))) (decide (0≤IntKind.u64.wrap (32-n)))) (by kernel_rfl) (by rw [hw,decide_eq_true h1,decide_eq_true (show 0≤32-n by omega)];rfl) rfl
 ·cases e
def qq (a b c d:Int):Int×Int×Int×Int:=
 let a1:=V (a+b)
 let d1:=tu (xorI .u32 d a1) 16
 let c1:=V (c+d1)
 let b1:=tu (xorI .u32 b c1) 12
 let a2:=V (a1+b1)
 let d2:=tu (xorI .u32 d1 a2) 8
 let c2:=V (c1+d2)
 (a2,tu (xorI .u32 b1 c2) 7,c2,d2)
def qstQ (x:List Int) (q:Nat×Nat×Nat×Nat):List Int:=
 (((x.set q.1 (qq (x.getD q.1 0) (x.getD q.2.1 0) (x.getD q.2.2.1 0) (x.getD q.2.2.2 0)).1).set q.2.1 (qq (x.getD q.1 0) (x.getD q.2.1 0) (x.getD q.2.2.1 0) (x.getD q.2.2.2 0)).2.1).set q.2.2.1 (qq (x.getD q.1 0) (x.getD q.2.1 0) (x.getD q.2.2.1 0) (x.getD q.2.2.2 0)).2.2.1).set q.2.2.2 (qq (x.getD q.1 0) (x.getD q.2.1 0) (x.getD q.2.2.1 0) (x.getD q.2.2.2 0)).2.2.2
noncomputable def quC:Ctr:=mk (P:=Tryz.prog) [tuE] []
theorem quC_ok:CtrSound Tryz.prog quC:=mk_sound _ InlOK.nil _ _
def quOK (a b c d:Int):Bool:=Cc.qRd.any fun q=>decide (a=q.1)&&decide (b=q.2.1)&&decide (c=q.2.2.1)&&decide (d=q.2.2.2)
section
variable (x:List Int) (ex wh:Bool)
theorem qu_0:(callS Tryz.prog quC 60 Tryz.f267 [.sl 0 0 0 1 16 16 ex wh,.int .i64 0,.int .i64 4,.int .i64 8,.int .i64 12] [.b [.ints .u32 16 (lst 16 x)]]).map (fun r=>(r.1,r.2.1.take 1,r.2.2))=
  some (.tup [],[.b [.ints .u32 16 (qstQ (lst 16 x) (0,4,8,12))]],true):=by kernel_rfl
theorem qu_1:(callS Tryz.prog quC 60 Tryz.f267 [.sl 0 0 0 1 16 16 ex wh,.int .i64 1,.int .i64 5,.int .i64 9,.int .i64 13] [.b [.ints .u32 16 (lst 16 x)]]).map (fun r=>(r.1,r.2.1.take 1,r.2.2))=
  some (.tup [],[.b [.ints .u32 16 (qstQ (lst 16 x) (1,5,9,13))]],true):=by kernel_rfl
theorem qu_2:(callS Tryz.prog quC 60 Tryz.f267 [.sl 0 0 0 1 16 16 ex wh,.int .i64 2,.int .i64 6,.int .i64 10,.int .i64 14] [.b [.ints .u32 16 (lst 16 x)]]).map (fun r=>(r.1,r.2.1.take 1,r.2.2))=
  some (.tup [],[.b [.ints .u32 16 (qstQ (lst 16 x) (2,6,10,14))]],true):=by kernel_rfl
theorem qu_3:(callS Tryz.prog quC 60 Tryz.f267 [.sl 0 0 0 1 16 16 ex wh,.int .i64 3,.int .i64 7,.int .i64 11,.int .i64 15] [.b [.ints .u32 16 (lst 16 x)]]).map (fun r=>(r.1,r.2.1.take 1,r.2.2))=
  some (.tup [],[.b [.ints .u32 16 (qstQ (lst 16 x) (3,7,11,15))]],true):=by kernel_rfl
theorem qu_4:(callS Tryz.prog quC 60 Tryz.f267 [.sl 0 0 0 1 16 16 ex wh,.int .i64 0,.int .i64 5,.int .i64 10,.int .i64 15] [.b [.ints .u32 16 (lst 16 x)]]).map (fun r=>(r.1,r.2.1.take 1,r.2.2))=
  some (.tup [],[.b [.ints .u32 16 (qstQ (lst 16 x) (0,5,10,15))]],true):=by kernel_rfl
theorem qu_5:(callS Tryz.prog quC 60 Tryz.f267 [.sl 0 0 0 1 16 16 ex wh,.int .i64 1,.int .i64 6,.int .i64 11,.int .i64 12] [.b [.ints .u32 16 (lst 16 x)]]).map (fun r=>(r.1,r.2.1.take 1,r.2.2))=
  some (.tup [],[.b [.ints .u32 16 (qstQ (lst 16 x) (1,6,11,12))]],true):=by kernel_rfl
theorem qu_6:(callS Tryz.prog quC 60 Tryz.f267 [.sl 0 0 0 1 16 16 ex wh,.int .i64 2,.int .i64 7,.int .i64 8,.int .i64 13] [.b [.ints .u32 16 (lst 16 x)]]).map (fun r=>(r.1,r.2.1.take 1,r.2.2))=
  some (.tup [],[.b [.ints .u32 16 (qstQ (lst 16 x) (2,7,8,13))]],true):=by kernel_rfl
theorem qu_7:(callS Tryz.prog quC 60 Tryz.f267 [.sl 0 0 0 1 16 16 ex wh,.int .i64 3,.int .i64 4,.int .i64 9,.int .i64 14] [.b [.ints .u32 16 (lst 16 x)]]).map (fun r=>(r.1,r.2.1.take 1,r.2.2))=
  some (.tup [],[.b [.ints .u32 16 (qstQ (lst 16 x) (3,4,9,14))]],true):=by kernel_rfl
end
end Go.Proofs.YthlnlcijnoadcaaGreatDoor.R3
end
section
namespace Go.Proofs.YthlnlcijnoadcaaGreatDoor.R3
open Go Go.Sy Sh
theorem quarter_fn {x:List Int} {a b c d:Int} {ex wh:Bool} (hx:x.length=16) (h:quOK a b c d=true):
  FnTr Tryz.prog 267 [.sl 0 0 0 1 16 16 ex wh,.int .i64 a,.int .i64 b,.int .i64 c,.int .i64 d] [.b [.ints .u32 16 x]] (.tup []) [.b [.ints .u32 16 (qstQ x (a.toNat,b.toNat,c.toNat,d.toNat))]]:=by
 have e:lst 16 x=x:=lst_eq hx
 unfold quOK at h
 rw [List.any_eq_true] at h
 obtain ⟨q,hq,h⟩:=h
 simp only [Bool.and_eq_true,decide_eq_true_eq] at h
 obtain ⟨⟨⟨h1,h2⟩,h3⟩,h4⟩:=h
 simp only [Cc.qRd,List.mem_cons,List.not_mem_nil,or_false] at hq
 rcases hq with rfl|rfl|rfl|rfl|rfl|rfl|rfl|rfl
 ·obtain rfl:a=0:=h1
  obtain rfl:b=4:=h2
  obtain rfl:c=8:=h3
  obtain rfl:d=12:=h4
  have k:=qu_0 x ex wh
  rw [e] at k
  exact callM quC_ok 60 Tryz.func267 1 (by simp) k rfl rfl rfl
 ·obtain rfl:a=1:=h1
  obtain rfl:b=5:=h2
  obtain rfl:c=9:=h3
  obtain rfl:d=13:=h4
  have k:=qu_1 x ex wh
  rw [e] at k
  exact callM quC_ok 60 Tryz.func267 1 (by simp) k rfl rfl rfl
 ·obtain rfl:a=2:=h1
  obtain rfl:b=6:=h2
  obtain rfl:c=10:=h3
  obtain rfl:d=14:=h4
  have k:=qu_2 x ex wh
  rw [e] at k
  exact callM quC_ok 60 Tryz.func267 1 (by simp) k rfl rfl rfl
 ·obtain rfl:a=3:=h1
  obtain rfl:b=7:=h2
  obtain rfl:c=11:=h3
  obtain rfl:d=15:=h4
  have k:=qu_3 x ex wh
  rw [e] at k
  exact callM quC_ok 60 Tryz.func267 1 (by simp) k rfl rfl rfl
 ·obtain rfl:a=0:=h1
  obtain rfl:b=5:=h2
  obtain rfl:c=10:=h3
  obtain rfl:d=15:=h4
  have k:=qu_4 x ex wh
  rw [e] at k
  exact callM quC_ok 60 Tryz.func267 1 (by simp) k rfl rfl rfl
 ·obtain rfl:a=1:=h1
  obtain rfl:b=6:=h2
  obtain rfl:c=11:=h3
  obtain rfl:d=12:=h4
  have k:=qu_5 x ex wh
  rw [e] at k
  exact callM quC_ok 60 Tryz.func267 1 (by simp) k rfl rfl rfl
 ·obtain rfl:a=2:=h1
  obtain rfl:b=7:=h2
  obtain rfl:c=8:=h3
  obtain rfl:d=13:=h4
  have k:=qu_6 x ex wh
  rw [e] at k
  exact callM quC_ok 60 Tryz.func267 1 (by simp) k rfl rfl rfl
 ·obtain rfl:a=3:=h1
  obtain rfl:b=4:=h2
  obtain rfl:c=9:=h3
  obtain rfl:d=14:=h4
  have k:=qu_7 x ex wh
  rw [e] at k
  exact callM quC_ok 60 Tryz.func267 1 (by simp) k rfl rfl rfl
def pickX (vs:List SV) (_:List Blk):List Nat:=match vs with
 | .sl b _ _ _ _ _ _ _::_=>[b]
 |_=>[]
def quF:List SV→List Blk→Option (SV×List Blk×Bool)
 | [.sl 0 0 0 1 16 16 _ _,.int .i64 a,.int .i64 b,.int .i64 c,.int .i64 d],[.b [.ints .u32 16 x]]=>some (.tup [],[.b [.ints .u32 16 (qstQ x (a.toNat,b.toNat,c.toNat,d.toNat))]],decide (x.length=16)&&quOK a b c d)
 |_,_=>none
noncomputable def quE:Entry Tryz.prog:=.mut 267 _ Tryz.func267 (by decide) rfl pickX 0 quF fun vs h0 v h1 e=>by
 unfold quF at e
 split at e
 ·simp only [Option.some.injEq,Prod.mk.injEq,Bool.and_eq_true,decide_eq_true_eq] at e
  obtain ⟨rfl,rfl,h1,h2⟩:=e
  exact quarter_fn h1 h2
 ·cases e
section
variable (m:Nat) (l xs:List Int) (i:Int)
end
end Go.Proofs.YthlnlcijnoadcaaGreatDoor.R3
end
section
namespace Go.Proofs.YthlnlcijnoadcaaGreatDoor.R3
open Go Go.Sy Sh
theorem V_eq (n:Int):V n=n%4294967296:=S2.wrap_u32 n
theorem or32 (i:Nat) (x y:Int) (hx0:0≤x) (hx:x%2^i=0) (hx1:x<4294967296) (hy0:0≤y) (hy:y<2^i) (hi:i≤32):orI .u32 x y=x+y:=by
 have e:(2:Int)^32=4294967296:=by decide
 have h2:(2:Int)^i≤2^32:=by exact_mod_cast Nat.pow_le_pow_right (by decide) hi
 exact bits_join .u32 32 (by decide) wraps_u32 i x y hx0 hx (by rw [e];exact hx1) hy0 hy (by omega)
theorem shl32 (a:Int) (n:Nat) (hn:n≤32):shlI .u32 a n=a*2^n%4294967296:=by
 unfold shlI
 rw [show min n IntKind.u32.bits=n from Nat.min_eq_left hn,S2.wrap_u32]
theorem shr32 (a:Int) (n:Nat) (hn:n≤32):shrI .u32 a n=a/2^n:=Fe.shr_eq _ _ _ hn
def In32 (x:Int):Prop:=0≤x∧x<4294967296
theorem V_in (n:Int):In32 (V n):=by
 rw [V_eq]
 exact ⟨Int.emod_nonneg _ (by decide),Int.emod_lt_of_pos _ (by decide)⟩
theorem turn32 {x:Int} (hx:In32 x) (n m:Nat) (h:n+m=32):orI .u32 (shlI .u32 x m) (shrI .u32 x n)=V (shlI .u32 x m+shrI .u32 x n):=by
 rw [shr32 _ _ (show n≤32 by omega),shl32 _ _ (by omega)]
 have hp:(2:Int)^n*2^m=4294967296:=by rw [←Int.pow_add,h];decide
 have hn:(0:Int)<2^n:=Int.pow_pos (by decide)
 have hm:(0:Int)<2^m:=Int.pow_pos (by decide)
 have e1:x*2^m%4294967296=(x%2^n)*2^m:=by rw [←hp,Int.mul_comm x,Int.mul_comm (2^n) (2^m),Int.mul_emod_mul_of_pos _ _ hm,Int.mul_comm]
 have h1:=Int.emod_lt_of_pos x hn
 have h0:=Int.emod_nonneg x (Int.ne_of_gt hn)
 have h2:x/2^n<2^m:=Int.ediv_lt_of_lt_mul hn (by rw [Int.mul_comm,hp];exact hx.2)
 have h3:0≤x/2^n:=Int.ediv_nonneg hx.1 (Int.le_of_lt hn)
 have h4:(x%2^n+1)*2^m≤2^n*2^m:=Int.mul_le_mul_of_nonneg_right (by omega) (Int.le_of_lt hm)
 rw [hp,Int.add_mul] at h4
 have h5:0≤(x%2^n)*2^m:=Int.mul_nonneg h0 (Int.le_of_lt hm)
 rw [e1,or32 m _ _ h5 (Int.mul_emod_left _ _) (by omega) h3 h2 (by omega),V_eq,Int.emod_eq_of_lt (a:=x%2^n*2^m+x/2^n) (b:=4294967296) (by omega) (by omega)]
end Go.Proofs.YthlnlcijnoadcaaGreatDoor.R3
end
