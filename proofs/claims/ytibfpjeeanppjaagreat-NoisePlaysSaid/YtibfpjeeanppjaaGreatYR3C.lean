/- This file holds the texts R3B, R3C, a section each. No conditions beyond those in the theorems. -/
import Derived.Test.YtibfpjeeanppjaaGreatYR3A
import Derived.Test.YtibfpjeeanppjaaGreatYShI
import Derived.Test.YtibfpjeeanppjaaGreatYMe
import Derived.Laws.BitsLemmas
import Derived.Lib.EndianBits
set_option linter.all false
set_option maxRecDepth 100000
section
namespace Go.Proofs.YtibfpjeeanppjaaGreat.R3
open Go Go.Sy Sh
theorem Fc {x:List Int} {a b c d:Int} {ex wh:Bool} (hx:x.length=16) (h:ZX a b c d=true):
  ai Tryz.prog 154 [.sl 0 0 0 1 16 16 ex wh,.int .i64 a,.int .i64 b,.int .i64 c,.int .i64 d] [.b [.ints .u32 16 x]] (.aT []) [.b [.ints .u32 16 (mZ x (a.toNat,b.toNat,c.toNat,d.toNat))]]:=by
 have e:aH 16 x=x:=aG hx
 unfold ZX at h
 rw [List.any_eq_true] at h
 obtain ⟨q,hq,h⟩:=h
 simp only [Bool.and_eq_true,decide_eq_true_eq] at h
 obtain ⟨⟨⟨h1,h2⟩,h3⟩,h4⟩:=h
 simp only [Cc.UR,List.mem_cons,List.not_mem_nil,or_false] at hq
 rcases hq with rfl|rfl|rfl|rfl|rfl|rfl|rfl|rfl
 ·obtain rfl:a=0:=h1
  obtain rfl:b=4:=h2
  obtain rfl:c=8:=h3
  obtain rfl:d=12:=h4
  have k:=aj3 x ex wh
  rw [e] at k
  exact aQ kj 60 Tryz.func154 1 (by simp) k rfl rfl rfl
 ·obtain rfl:a=1:=h1
  obtain rfl:b=5:=h2
  obtain rfl:c=9:=h3
  obtain rfl:d=13:=h4
  have k:=aj4 x ex wh
  rw [e] at k
  exact aQ kj 60 Tryz.func154 1 (by simp) k rfl rfl rfl
 ·obtain rfl:a=2:=h1
  obtain rfl:b=6:=h2
  obtain rfl:c=10:=h3
  obtain rfl:d=14:=h4
  have k:=aj5 x ex wh
  rw [e] at k
  exact aQ kj 60 Tryz.func154 1 (by simp) k rfl rfl rfl
 ·obtain rfl:a=3:=h1
  obtain rfl:b=7:=h2
  obtain rfl:c=11:=h3
  obtain rfl:d=15:=h4
  have k:=aj6 x ex wh
  rw [e] at k
  exact aQ kj 60 Tryz.func154 1 (by simp) k rfl rfl rfl
 ·obtain rfl:a=0:=h1
  obtain rfl:b=5:=h2
  obtain rfl:c=10:=h3
  obtain rfl:d=15:=h4
  have k:=aj7 x ex wh
  rw [e] at k
  exact aQ kj 60 Tryz.func154 1 (by simp) k rfl rfl rfl
 ·obtain rfl:a=1:=h1
  obtain rfl:b=6:=h2
  obtain rfl:c=11:=h3
  obtain rfl:d=12:=h4
  have k:=aj8 x ex wh
  rw [e] at k
  exact aQ kj 60 Tryz.func154 1 (by simp) k rfl rfl rfl
 ·obtain rfl:a=2:=h1
  obtain rfl:b=7:=h2
  obtain rfl:c=8:=h3
  obtain rfl:d=13:=h4
  have k:=aj9 x ex wh
  rw [e] at k
  exact aQ kj 60 Tryz.func154 1 (by simp) k rfl rfl rfl
 ·obtain rfl:a=3:=h1
  obtain rfl:b=4:=h2
  obtain rfl:c=9:=h3
  obtain rfl:d=14:=h4
  have k:=aka x ex wh
  rw [e] at k
  exact aQ kj 60 Tryz.func154 1 (by simp) k rfl rfl rfl
def afC (vs:List SV) (_:List Blk):List Nat:=match vs with
 | .sl b _ _ _ _ _ _ _::_=>[b]
 |_=>[]
def quF:List SV→List Blk→Option (SV×List Blk×Bool)
 | [.sl 0 0 0 1 16 16 _ _,.int .i64 a,.int .i64 b,.int .i64 c,.int .i64 d],[.b [.ints .u32 16 x]]=>some (.aT [],[.b [.ints .u32 16 (mZ x (a.toNat,b.toNat,c.toNat,d.toNat))]],decide (x.length=16)&&ZX a b c d)
 |_,_=>none
noncomputable def quE:Entry Tryz.prog:=.mut 154 _ Tryz.func154 (by decide) rfl afC 0 quF fun vs h0 v h1 e=>by
 unfold quF at e
 split at e
 ·simp only [Option.some.injEq,Prod.mk.injEq,Bool.and_eq_true,decide_eq_true_eq] at e
  obtain ⟨rfl,rfl,h1,h2⟩:=e
  exact Fc h1 h2
 ·cases e
noncomputable def woB:Code:=aE Tryz.f153
noncomputable def woC (b:Bool):bu:=mk (P:=Tryz.prog) [] [] fun i=>if i=9 then some b else if i=43 then some true else none
theorem AK (b:Bool):ag Tryz.prog (woC b):=ah _ au.nil _ _
noncomputable def Qc (m:Nat) (l xs:List Int) (i:Int):St:=⟨slotsOf 45 [(0,.ro false .u8 xs),(3,.sl 0 0 0 1 m m false true),(4,.int .i64 i)],[.b [.ints .u32 m l]],true⟩
noncomputable def akb (xs:List Int):St:=⟨slotsOf 45 [(0,.ro false .u8 xs),(3,.nl (.slice none 0 0)),(4,.int .i64 0)],[],true⟩
def wdI (xs:List Int) (i i1 i2 i3:Nat):Int:=V (V (V (V (xs.getD i 0)+V (256*V (xs.getD i1 0)))+V (65536*V (xs.getD i2 0)))+V (16777216*V (xs.getD i3 0)))
def wdQ (xs:List Int) (j:Nat):Int:=wdI xs (4*j) (4*j+1) (4*j+2) (4*j+3)
def J (n:Int):Int:=IntKind.i64.wrap n
def woO (i:Int) (n:Nat):Bool:=aa (aa (aa (aa (aa (aa (aa (aa (aa true (decide (J (i+4)≤(n:Int)))) (cL i n)) (decide (i.toNat<n))) (cL (J (i+1)) n)) (decide ((J (i+1)).toNat<n))) (cL (J (i+2)) n)) (decide ((J (i+2)).toNat<n))) (cL (J (i+3)) n)) (decide ((J (i+3)).toNat<n))
section
variable (m:Nat) (l xs:List Int) (i:Int)
theorem Tq:(aW Tryz.prog (woC true) 60 0 3 (atoms woB) ⟨aO Tryz.f153.ntmps [.ro false .u8 xs],[],true⟩).bind (St.cut [0,3,4] 0)=some (akb xs):=by kernel_rfl
theorem ZY:(exec Tryz.prog (woC true) 60 0 (inner (inner (aA 3 woB))) (Qc m l xs i)).bind (fun r=>(r.2.cut [0,3,4] 1).map fun q=>(r.1,q))=
  some (.normal,{Qc (m+1) (l++[wdI xs i.toNat (J (i+1)).toNat (J (i+2)).toNat (J (i+3)).toNat]) xs (J (i+4)) with ob:=aa (woO i xs.length) (xN l.length m)}):=by kernel_rfl
theorem ZZ:(exec Tryz.prog (woC false) 60 0 (inner (inner (aA 3 woB))) (Qc m l xs i)).bind (fun r=>(r.2.cut [0,3,4] 1).map fun q=>(r.1,q))=
  some (.exit 0,{Qc m l xs i with ob:=aa true (!decide (J (i+4)≤(xs.length:Int)))}):=by kernel_rfl
end
def gK (xs:List Int) (m:Nat):List Int:=(List.range m).map (wdQ xs)
theorem Oo {xs:List Int} (hx:xs.length<100000):ai Tryz.prog 153 [.ro false .u8 xs] [] (.sl 0 0 0 1 (xs.length/4) (xs.length/4) false true) [.b [.ints .u32 (xs.length/4) (gK xs (xs.length/4))]]:=by
 have hJ:∀j:Nat,j<1000000→J (j:Int)=j:=fun j hj=>wrap_i64 _ (by omega) (by omega)
 have bY:Tr Tryz.prog none 0 (aA 3 woB) (Qc 0 [] xs 0) .normal (Qc (xs.length/4) (gK xs (xs.length/4)) xs ((4*(xs.length/4):Nat):Int)):=by
  have key:=Tr.loop (P:=Tryz.prog) (ro:=none) (k:=0) 0 (c:=aA 3 woB) (by kernel_rfl) (fun j:Nat=>Qc j (gK xs j) xs ((4*j:Nat):Int)) (xs.length/4) (s':=Qc (xs.length/4) (gK xs (xs.length/4)) xs ((4*(xs.length/4):Nat):Int)) (fun j hj=>?_) ?_
  ·exact key
  ·have k:=ZY j (gK xs j) xs ((4*j:Nat):Int)
   have e1:J (((4*j:Nat):Int)+1)=((4*j+1:Nat):Int):=by rw [←hJ (4*j+1) (by omega)];rfl
   have e2:J (((4*j:Nat):Int)+2)=((4*j+2:Nat):Int):=by rw [←hJ (4*j+2) (by omega)];rfl
   have e3:J (((4*j:Nat):Int)+3)=((4*j+3:Nat):Int):=by rw [←hJ (4*j+3) (by omega)];rfl
   have e4:J (((4*j:Nat):Int)+4)=((4*(j+1):Nat):Int):=by rw [←hJ (4*(j+1)) (by omega)];rfl
   have ho:woO ((4*j:Nat):Int) xs.length=true:=by
    unfold woO
    rw [e1,e2,e3,e4]
    simp only [av,decide_eq_true_eq,true_and,Int.toNat_natCast]
    exact ⟨⟨⟨⟨⟨⟨⟨⟨by omega,aK (by omega) (by omega)⟩,by omega⟩,aK (by omega) (by omega)⟩,by omega⟩,aK (by omega) (by omega)⟩,by omega⟩,aK (by omega) (by omega)⟩,by omega⟩
   have hl:(gK xs j).length=j:=by simp [gK]
   rw [ho,hl,cG (by omega),e1,e2,e3,e4,Int.toNat_natCast,Int.toNat_natCast,Int.toNat_natCast,Int.toNat_natCast] at k
   refine Tr.post (Tr.cut (AK true) 60 _ 1 (by omega) k rfl) (bq.same rfl ?_)
   show [Blk.b [SV.ints .u32 (j+1) (gK xs j++[wdQ xs j])]]=[Blk.b [SV.ints .u32 (j+1) (gK xs (j+1))]]
   unfold gK
   rw [List.range_succ,List.map_append];rfl
  ·have k:=ZZ (xs.length/4) (gK xs (xs.length/4)) xs ((4*(xs.length/4):Nat):Int)
   have e4:J (((4*(xs.length/4):Nat):Int)+4)=((4*(xs.length/4)+4:Nat):Int):=by rw [←hJ (4*(xs.length/4)+4) (by omega)];rfl
   rw [e4,decide_eq_false (show ¬(((4*(xs.length/4)+4:Nat):Int)≤xs.length) by omega)] at k
   exact Tr.cut (AK false) 60 _ 1 (by omega) k rfl
 refine ai.cu (AK true) 60 4 1 Tryz.func153 (by simp) rfl (fun s' x h=>?_) (s:=Qc (xs.length/4) (gK xs (xs.length/4)) xs ((4*(xs.length/4):Nat):Int)) (p:=true) (by kernel_rfl) rfl rfl rfl
 refine bf.items (AK true) 60 3 _ 0 (by simp) (Tq xs) rfl (by decide) ?_
 refine bf.pre (s1:=Qc 0 [] xs 0) (bf.item 3 (by decide) bY h) ((bq.nothing 3 .u32 false true rfl).trans (bq.same rfl rfl)) (by decide)
def woF:List SV→Option (SV×List Blk×Bool)
 | [.ro false .u8 xs]=>some (.sl 0 0 0 1 (xs.length/4) (xs.length/4) false true,[.b [.ints .u32 (xs.length/4) (gK xs (xs.length/4))]],decide (xs.length<100000))
 |_=>none
noncomputable def woE:Entry Tryz.prog:=.val 153 _ Tryz.func153 (by decide) rfl true 1 woF fun vs v new e=>by
 unfold woF at e
 split at e
 ·simp only [Option.some.injEq,Prod.mk.injEq,decide_eq_true_eq] at e
  obtain ⟨rfl,rfl,h⟩:=e
  exact Oo h
 ·cases e
end Go.Proofs.YtibfpjeeanppjaaGreat.R3
end
section
namespace Go.Proofs.YtibfpjeeanppjaaGreat.R3
open Go Go.Sy Sh
theorem Ts (n:Int):V n=n%4294967296:=S2.wrap_u32 n
theorem Db (i:Nat) (x y:Int) (hx0:0≤x) (hx:x%2^i=0) (hx1:x<4294967296) (hy0:0≤y) (hy:y<2^i) (hi:i≤32):gi .u32 x y=x+y:=by
 have e:(2:Int)^32=4294967296:=by decide
 have h2:(2:Int)^i≤2^32:=by exact_mod_cast Nat.pow_le_pow_right (by decide) hi
 exact bits_join .u32 32 (by decide) wraps_u32 i x y hx0 hx (by rw [e];exact hx1) hy0 hy (by omega)
theorem oU (a b:Int):gi .u32 a b=gi .u32 b a:=by unfold gi jy;simp only [BitVec.or_comm]
theorem uh (a:Int) (n:Nat) (hn:n≤32):c7 .u32 a n=a*2^n%4294967296:=by
 unfold c7
 rw [show min n IntKind.u32.bits=n from Nat.min_eq_left hn,S2.wrap_u32]
theorem V2 (a:Int) (n:Nat) (hn:n≤32):bO .u32 a n=a/2^n:=Fe.dB _ _ _ hn
def ot (x:Int):Prop:=0≤x∧x<4294967296
theorem Ff (n:Int):ot (V n):=by
 rw [Ts]
 exact ⟨Int.emod_nonneg _ (by decide),Int.emod_lt_of_pos _ (by decide)⟩
theorem AL (a b:Int):ot (cm .u32 a b):=Ff _
theorem Fg {x:Int} (hx:ot x) (n m:Nat) (h:n+m=32):gi .u32 (c7 .u32 x m) (bO .u32 x n)=V (c7 .u32 x m+bO .u32 x n):=by
 rw [V2 _ _ (show n≤32 by omega),uh _ _ (by omega)]
 have hp:(2:Int)^n*2^m=4294967296:=by rw [←Int.pow_add,h];decide
 have hn:(0:Int)<2^n:=Int.pow_pos (by decide)
 have hm:(0:Int)<2^m:=Int.pow_pos (by decide)
 have e1:x*2^m%4294967296=(x%2^n)*2^m:=by rw [←hp,Int.mul_comm x,Int.mul_comm (2^n) (2^m),Int.mul_emod_mul_of_pos _ _ hm,Int.mul_comm]
 have h1:=Int.emod_lt_of_pos x hn
 have h0:=Int.emod_nonneg x (Int.ne_of_gt hn)
 have h2:x/2^n<2^m:=Int.ediv_lt_of_lt_mul hn (by rw [Int.mul_comm,hp];exact hx.2)
 have h3:0≤x/2^n:=Int.ediv_nonneg hx.1 (Int.le_of_lt hn)
 have h4:(x%2^n+1)*2^m≤2^n*2^m:=Int.mul_le_mul_of_nonneg_right (by omega) (Int.le_of_lt hm)
 rw [hp,Int.add_mul] at h4
 have h5:0≤(x%2^n)*2^m:=Int.mul_nonneg h0 (Int.le_of_lt hm)
 rw [e1,Db m _ _ h5 (Int.mul_emod_left _ _) (by omega) h3 h2 (by omega),Ts,Int.emod_eq_of_lt (a:=x%2^n*2^m+x/2^n) (b:=4294967296) (by omega) (by omega)]
theorem Hw {x:Int} (hx:ot x) (a b:Int) (n m:Nat) (h:n+m=32) (e1:(bS .u64 (W a) 31).toNat=m) (e2:(W (32-bS .u64 (W a) 31)).toNat=n)
  (e3:b.toNat=m) (e4:(IntKind.u64.wrap (32-b)).toNat=n):S2.mQ x a=tu x b:=by
 unfold S2.mQ tu
 rw [e1,e2,e3,e4]
 exact Fg hx n m h
theorem afE (a b c d:Int):Cc.qr a b c d=qq a b c d:=by
 have Ap:∀y z:Int,S2.mQ (cm .u32 y z) 16=tu (cm .u32 y z) 16:=fun y z=>Hw (AL y z) 16 16 16 16 rfl (by decide) (by decide) rfl (by decide)
 have h12:∀y z:Int,S2.mQ (cm .u32 y z) 12=tu (cm .u32 y z) 12:=fun y z=>Hw (AL y z) 12 12 20 12 rfl (by decide) (by decide) rfl (by decide)
 have h8:∀y z:Int,S2.mQ (cm .u32 y z) 8=tu (cm .u32 y z) 8:=fun y z=>Hw (AL y z) 8 8 24 8 rfl (by decide) (by decide) rfl (by decide)
 have h7:∀y z:Int,S2.mQ (cm .u32 y z) 7=tu (cm .u32 y z) 7:=fun y z=>Hw (AL y z) 7 7 25 7 rfl (by decide) (by decide) rfl (by decide)
 unfold Cc.qr qq
 simp only [Ap,h12,h8,h7]
theorem Z0 (x:List Int) (q:Nat×Nat×Nat×Nat):mZ x q=Cc.qst x q:=by
 unfold mZ Cc.qst
 simp only [afE]
theorem V3 {l:List Int} (h:∀z∈l,0≤z∧z<256) (j:Nat):wdQ l j=Cc.wdL l j:=by
 have hg:∀i,0≤l.getD i 0∧l.getD i 0<256:=fun i=>by
  rw [List.getD_eq_getElem?_getD]
  cases e:l[i]? with
  |none=>exact ⟨by decide,by decide⟩
  |some x=>exact h x (List.mem_of_getElem? e)
 unfold wdQ wdI Cc.wdL
 have b0:=hg (4*j)
 have b1:=hg (4*j+1)
 have b2:=hg (4*j+2)
 have b3:=hg (4*j+3)
 generalize l.getD (4*j) 0=p0 at*
 generalize l.getD (4*j+1) 0=p1 at*
 generalize l.getD (4*j+2) 0=p2 at*
 generalize l.getD (4*j+3) 0=p3 at*
 rw [uh _ _ (by decide),uh _ _ (by decide),uh _ _ (by decide)]
 simp only [Cc.V,V,S2.wrap_u32]
 have e0:p0%4294967296=p0:=by omega
 have e1:p1%4294967296*2^8%4294967296=256*p1:=by omega
 have e2:p2%4294967296*2^16%4294967296=65536*p2:=by omega
 have e3:p3%4294967296*2^24%4294967296=16777216*p3:=by omega
 rw [e0,e1,e2,e3]
 rw [oU p0,Db 8 (256*p1) p0 (by omega) (by omega) (by omega) (by omega) (by omega) (by decide)]
 rw [oU _ (65536*p2),Db 16 (65536*p2) _ (by omega) (by omega) (by omega) (by omega) (by omega) (by decide)]
 rw [oU _ (16777216*p3),Db 24 (16777216*p3) _ (by omega) (by omega) (by omega) (by omega) (by omega) (by decide)]
 omega
end Go.Proofs.YtibfpjeeanppjaaGreat.R3
end
