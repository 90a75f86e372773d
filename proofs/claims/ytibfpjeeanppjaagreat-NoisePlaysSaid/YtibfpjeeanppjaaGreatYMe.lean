/- This file proves what words' operations come to as arithmetic, and the contracts of the library's Add64, Mul64. Conditions: numbers within their kinds. -/
import Derived.Test.YtibfpjeeanppjaaGreatYMd
import Derived.Test.YtibfpjeeanppjaaGreatChecked
import Derived.Laws.Externs
import Derived.Laws.BitsLemmas
import Derived.IntWalk
set_option linter.all false
set_option maxRecDepth 100000
namespace Go.Proofs.YtibfpjeeanppjaaGreat.Fe
open Go Go.Sy
def inU (m:Int) (x:Int):Bool:=decide (0≤x)&&decide (x<m)
def u64 (x:Int):Bool:=inU 18446744073709551616 x
def u8 (x:Int):Bool:=inU 256 x
theorem jN {x:Int}:u64 x=true↔0≤x∧x<18446744073709551616:=by simp [u64,inU]
theorem nk {x:Int}:u8 x=true↔0≤x∧x<256:=by simp [u8,inU]
theorem wraps_u64 (n:Int) (h₀:0≤n) (h₁:n<2^64):IntKind.u64.wrap n=n:=by
 have e:(2:Int)^64=18446744073709551616:=by decide
 rw [e] at h₁
 rw [show IntKind.u64.wrap n=n%2^64 from by simp [IntKind.wrap,IntKind.signed,IntKind.bits],e]
 omega
theorem wrap_u64 (n:Int):IntKind.u64.wrap n=n%18446744073709551616:=by simp [IntKind.wrap,IntKind.signed,IntKind.bits]
theorem wrap_u8 (n:Int):IntKind.u8.wrap n=n%256:=by simp [IntKind.wrap,IntKind.signed,IntKind.bits]
theorem wrap_i64 (n:Int) (h0: -9223372036854775808≤n) (h1:n<9223372036854775808):IntKind.i64.wrap n=n:=IntWalk.i64_in n (by omega)
theorem uD (i:Nat) (x y:Int) (hx₀:0≤x) (hx:x%2^i=0) (hx₁:x<18446744073709551616) (hy₀:0≤y) (hy:y<2^i) (hi:i≤64):gi .u64 x y=x+y:=by
 have e:(2:Int)^64=18446744073709551616:=by decide
 have h2:(2:Int)^i≤2^64:=by exact_mod_cast Nat.pow_le_pow_right (by decide) hi
 exact bits_join .u64 64 (by decide) wraps_u64 i x y hx₀ hx (by rw [e];exact hx₁) hy₀ hy (by omega)
theorem dB (k:IntKind) (a:Int) (n:Nat) (hn:n≤k.bits):bO k a n=a/2^n:=by
 unfold bO
 rw [Nat.min_eq_left hn,Int.fdiv_eq_ediv_of_nonneg]
 exact_mod_cast Nat.zero_le (2^n)
theorem lD (a:Int) (n:Nat) (hn:n≤64):c7 .u64 a n=a*2^n%18446744073709551616:=by
 unfold c7
 rw [show min n IntKind.u64.bits=n from Nat.min_eq_left hn,wrap_u64]
theorem M7 (i:Nat) (hi:i≤64) (x:Int) (h0:0≤x) (h1:x<18446744073709551616):bS .u64 x (2^i-1)=x%2^i:=by
 exact (bits_mask .u64 64 (by decide) wraps_u64 i hi x h0 h1:bits .and .u64 x (2^i-1)=x%2^i)
theorem M8 (x:Int) (h0:0≤x) (h1:x<256):bS .u8 x 1=x%2:=by
 exact (bits_mask .u8 8 (by decide) wraps_u8 1 (by decide) x h0 h1:bits .and .u8 x (2^1-1)=x%2^1)
theorem eF (x:Int) (h0:0≤x) (h1:x<18446744073709551616):bS .u64 x 2251799813685247=x%2251799813685248:=M7 51 (by decide) x h0 h1
theorem EP (x:Int) (h0:0≤x) (h1:x<18446744073709551616):bS .u64 x 4294967295=x%4294967296:=M7 32 (by decide) x h0 h1
theorem lE (x:Int):bO .u64 x 51=x/2251799813685248:=by rw [dB _ _ _ (by decide)];simp
noncomputable def ck (x y c:Int):Int:=gY (Int.ofNat ((x.toNat+y.toNat+c.toNat)%Extern.MathBitsCarry.m64))
noncomputable def bR (x y c:Int):Int:=gY (Int.ofNat ((x.toNat+y.toNat+c.toNat)/Extern.MathBitsCarry.m64))
def cV (c:Int):Bool:=decide (c.toNat≤1)
theorem ER {P:Program} (x y c:Int) (hc:cV c=true) (w:World):
  (add64Entry #[.int .u64 x,.int .u64 y,.int .u64 c]).run P w= .ok (.tuple #[.int .u64 (ck x y c),.int .u64 (bR x y c)]) w:=by
 unfold ck bR
 rw [aD,aD]
 rcases c with (_|_|k)|n
 ·rfl
 ·rfl
 ·simp [cV] at hc;omega
 ·rfl
theorem qz {x y c:Int} (hx:0≤x) (hy:0≤y) (hc:0≤c):ck x y c=(x+y+c)%18446744073709551616∧bR x y c=(x+y+c)/18446744073709551616:=by
 unfold ck bR
 rw [aD,aD]
 have:Extern.MathBitsCarry.m64=18446744073709551616:=rfl
 rw [this]
 simp only [Int.ofNat_eq_natCast]
 omega
noncomputable def M9:List SV→Option (SV×Bool)
 | [.int .u64 x,.int .u64 y,.int .u64 c]=>some (.aT [.int .u64 (ck x y c),.int .u64 (bR x y c)],cV c)
 |_=>none
noncomputable def vm:Entry Tryz.prog:=.ext 133 M9 fun vs v e en w args hl=>by
 unfold M9 at e
 split at e
 ·rename_i x y c
  simp only [Option.some.injEq,Prod.mk.injEq] at e
  obtain ⟨rfl,hc⟩:=e
  obtain ⟨_,_,rfl,⟨_,_,rfl,⟨_,_,rfl,rfl,rfl⟩,rfl⟩,rfl⟩:=hl
  refine ⟨_,?_,⟨_,⟨_,_,rfl,⟨_,_,rfl,rfl,rfl⟩,rfl⟩,rfl⟩⟩
  rw [run_callFunc_extern Tryz.func133 (by kernel_rfl) (by kernel_rfl) (by kernel_rfl) (e:=add64Entry) (by kernel_rfl),ER x y c hc]
  rfl
 ·cases e
theorem mV:ag Tryz.prog (mk (P:=Tryz.prog) [] []):=ah [] au.nil _ _
def YH (x y:Int):Int:=IntKind.u64.wrap (IntKind.u64.wrap (bO .u64 x 32*bS .u64 y 4294967295)+bO .u64 (IntKind.u64.wrap (bS .u64 x 4294967295*bS .u64 y 4294967295)) 32)
noncomputable def fH (x y:Int):Int:=gY (IntKind.u64.wrap (IntKind.u64.wrap (IntKind.u64.wrap (bO .u64 x 32*bO .u64 y 32)+bO .u64 (YH x y) 32)+
 bO .u64 (IntKind.u64.wrap (bS .u64 (YH x y) 4294967295+IntKind.u64.wrap (bS .u64 x 4294967295*bO .u64 y 32))) 32))
noncomputable def mulL (x y:Int):Int:=gY (IntKind.u64.wrap (x*y))
noncomputable def Na:List SV→Option (SV×List Blk×Bool)
 | [.int .u64 x,.int .u64 y]=>some (.aT [.int .u64 (fH x y),.int .u64 (mulL x y)],[],true)
 |_=>none
noncomputable def DG:Entry Tryz.prog:=.val 134 _ Tryz.func134 (by decide) rfl false 0 Na fun vs v new e=>by
 unfold Na at e
 split at e
 ·rename_i x y
  cases e
  rw [fH,mulL,aD,aD]
  exact aF mV 60 Tryz.func134 (p:=true) (by kernel_rfl) rfl rfl
 ·cases e
theorem cO {x y m n:Int} (hx0:0≤x) (hx:x≤m) (hy0:0≤y) (hy:y≤n):0≤x*y∧x*y≤m*n:=
 ⟨Int.mul_nonneg hx0 hy0,Int.mul_le_mul hx hy hy0 (by omega)⟩
theorem w6 {x y:Int} (hx0:0≤x) (hx:x<18446744073709551616) (hy0:0≤y) (hy:y<18446744073709551616):
  18446744073709551616*fH x y+mulL x y=x*y∧0≤fH x y∧fH x y≤18446744073709551614∧0≤mulL x y∧mulL x y<18446744073709551616:=by
 rw [fH,mulL,aD,aD]
 unfold YH
 have s:∀z:Int,bO .u64 z 32=z/4294967296:=fun z=>by rw [dB _ _ _ (by decide)];simp
 simp only [s,EP x hx0 hx,EP y hy0 hy,wrap_u64]
 have a0:0≤x%4294967296∧x%4294967296≤4294967295:=by omega
 have a1:0≤x/4294967296∧x/4294967296≤4294967295:=by omega
 have b0:0≤y%4294967296∧y%4294967296≤4294967295:=by omega
 have b1:0≤y/4294967296∧y/4294967296≤4294967295:=by omega
 have ex:x=4294967296*(x/4294967296)+x%4294967296:=by omega
 have ey:y=4294967296*(y/4294967296)+y%4294967296:=by omega
 have hp:x*y=18446744073709551616*(x/4294967296*(y/4294967296))+4294967296*(x/4294967296*(y%4294967296))+4294967296*(x%4294967296*(y/4294967296))+x%4294967296*(y%4294967296):=by
  conv=>lhs;rw [ex,ey]
  generalize x/4294967296=u
  generalize x%4294967296=v
  generalize y/4294967296=p
  generalize y%4294967296=q
  grind
 have m11:=cO a1.1 a1.2 b1.1 b1.2
 have m10:=cO a1.1 a1.2 b0.1 b0.2
 have m01:=cO a0.1 a0.2 b1.1 b1.2
 have m00:=cO a0.1 a0.2 b0.1 b0.2
 rw [hp]
 generalize x/4294967296*(y/4294967296)=A at*
 generalize x/4294967296*(y%4294967296)=B at*
 generalize x%4294967296*(y/4294967296)=C at*
 generalize x%4294967296*(y%4294967296)=D at*
 clear ex ey hp
 have t0:(B%18446744073709551616+D%18446744073709551616/4294967296)%18446744073709551616=B+D/4294967296:=by omega
 rw [t0,EP _ (by omega) (by omega)]
 generalize hT:B+D/4294967296=T at*
 have r1:(T%4294967296+C%18446744073709551616)%18446744073709551616=T%4294967296+C:=by omega
 rw [r1]
 refine ⟨?_,?_,?_,?_,?_⟩<;>omega
end Go.Proofs.YtibfpjeeanppjaaGreat.Fe
namespace Go.Proofs.YtibfpjeeanppjaaGreat.Fe
open Go Go.Sy
theorem VE.aH (k:IntKind) (n:Nat) (l:List Int):VE (.agg [.ints k n l]) (.agg [.ints k n (aH n l)]):=fun e _ ⟨ys,h1,h2⟩=>⟨ys,(PE.aH k n l).2 e ys h1,h2⟩
abbrev fZ (n:Int):Int:=IntKind.u64.wrap n
abbrev ej (n:Int):Int:=bS .u64 n 2251799813685247
abbrev fF (n:Int):Int:=bO .u64 n 51
def cw0 (l:List Int):Int:=fZ (l.getD 0 0+0)
def cw1 (l:List Int):Int:=fZ (l.getD 1 0+fF (cw0 l))
def cw2 (l:List Int):Int:=fZ (l.getD 2 0+fF (cw1 l))
def cw3 (l:List Int):Int:=fZ (l.getD 3 0+fF (cw2 l))
def cw4 (l:List Int):Int:=fZ (l.getD 4 0+fF (cw3 l))
def Cy (l:List Int):List Int:=[fZ (ej (cw0 l)+fZ (19*fF (cw4 l))),ej (cw1 l),ej (cw2 l),ej (cw3 l),ej (cw4 l)]
noncomputable def jt (l:List Int):List Int:=gY (Cy (Cy (aH 5 l)))
noncomputable def VA:List SV→Option (SV×List Blk×Bool)
 | [.agg [.ints .u64 5 l]]=>some (.agg [.ints .u64 5 (jt l)],[],true)
 |_=>none
theorem Nb (l:List Int):ai Tryz.prog 104 [.agg [.ints .u64 5 l]] [] (.agg [.ints .u64 5 (jt l)]) []:=by
 refine ai.conv (bs:=[.agg [.ints .u64 5 (aH 5 l)]]) (h2:=[]) (h1:=[]) (v:=.agg [.ints .u64 5 (jt l)]) ?_ ⟨VE.aH _ _ _,trivial⟩ trivial (VE.refl _) trivial
 rw [jt,aD]
 exact aF mV 100 Tryz.func104 (p:=true) (by kernel_rfl) rfl rfl
noncomputable def aeJ:Entry Tryz.prog:=.val 104 _ Tryz.func104 (by decide) rfl false 0 VA fun vs v new e=>by
 unfold VA at e
 split at e
 ·cases e;exact Nb _
 ·cases e
def Si (a b:List Int):List Int:=[fZ (a.getD 0 0+b.getD 0 0),fZ (a.getD 1 0+b.getD 1 0),fZ (a.getD 2 0+b.getD 2 0),fZ (a.getD 3 0+b.getD 3 0),fZ (a.getD 4 0+b.getD 4 0)]
noncomputable def gT (a b:List Int):List Int:=jt (Si a b)
noncomputable def Cz:List SV→Option (SV×List Blk×Bool)
 | [.agg [.ints .u64 5 a],.agg [.ints .u64 5 b]]=>some (.agg [.ints .u64 5 (gT a b)],[],true)
 |_=>none
theorem Nc:ag Tryz.prog (mk [aeJ] []):=ah _ au.nil _ _
noncomputable def vr:Entry Tryz.prog:=.val 131 _ Tryz.func131 (by decide) rfl false 0 Cz fun vs v new e=>by
 unfold Cz at e
 split at e
 ·rename_i a b
  cases e
  refine ai.conv (bs:=[.agg [.ints .u64 5 (aH 5 a)],.agg [.ints .u64 5 (aH 5 b)]]) (h2:=[]) (h1:=[]) (v:=.agg [.ints .u64 5 (gT a b)]) ?_ ⟨VE.aH _ _ _,VE.aH _ _ _,trivial⟩ trivial (VE.refl _) trivial
  exact aF Nc 100 Tryz.func131 (p:=true) (by kernel_rfl) rfl rfl
 ·cases e
def Nd (a b:List Int):List Int:=[fZ (a.getD 0 0+fZ (9007199254740916-b.getD 0 0)),fZ (a.getD 1 0+fZ (9007199254740988-b.getD 1 0)),fZ (a.getD 2 0+fZ (9007199254740988-b.getD 2 0)),fZ (a.getD 3 0+fZ (9007199254740988-b.getD 3 0)),fZ (a.getD 4 0+fZ (9007199254740988-b.getD 4 0))]
noncomputable def gU (a b:List Int):List Int:=jt (Nd a b)
noncomputable def CA:List SV→Option (SV×List Blk×Bool)
 | [.agg [.ints .u64 5 a],.agg [.ints .u64 5 b]]=>some (.agg [.ints .u64 5 (gU a b)],[],true)
 |_=>none
noncomputable def KX:Entry Tryz.prog:=.val 103 _ Tryz.func103 (by decide) rfl false 0 CA fun vs v new e=>by
 unfold CA at e
 split at e
 ·rename_i a b
  cases e
  refine ai.conv (bs:=[.agg [.ints .u64 5 (aH 5 a)],.agg [.ints .u64 5 (aH 5 b)]]) (h2:=[]) (h1:=[]) (v:=.agg [.ints .u64 5 (gU a b)]) ?_ ⟨VE.aH _ _ _,VE.aH _ _ _,trivial⟩ trivial (VE.refl _) trivial
  exact aF Nc 100 Tryz.func103 (p:=true) (by kernel_rfl) rfl rfl
 ·cases e
end Go.Proofs.YtibfpjeeanppjaaGreat.Fe
namespace Go.Proofs.YtibfpjeeanppjaaGreat.Fe
open Go Go.Sy
noncomputable def pl (s:Int×Int) (x y:Int):Int×Int:=(fZ (s.1+fZ (fH x y+bR s.2 (mulL x y) 0)),ck s.2 (mulL x y) 0)
def yB (b:List Int) (k i:Nat):Int:=if i≤k then b.getD (k-i) 0 else fZ (b.getD (k+5-i) 0*19)
noncomputable def sK (a b:List Int) (k:Nat):Int×Int:=[0,1,2,3,4].foldl (fun s i=>pl s (a.getD i 0) (yB b k i)) (0,0)
noncomputable def nx (s:Int×Int) (c:Int):Int:=gi .u64 (fF (ck s.2 c 0)) (c7 .u64 (fZ (s.1+bR s.2 c 0)) 13)
noncomputable def j5 (s0 s1 s2 s3 s4:Int×Int):List Int:=
 [ej (ck (ej (ck s0.2 0 0)) (mulL (nx s4 (nx s3 (nx s2 (nx s1 (nx s0 0))))) 19) 0),
  fZ (ej (ck s1.2 (nx s0 0) 0)+gi .u64 (c7 .u64 (fZ (fH (nx s4 (nx s3 (nx s2 (nx s1 (nx s0 0))))) 19+bR (ej (ck s0.2 0 0)) (mulL (nx s4 (nx s3 (nx s2 (nx s1 (nx s0 0))))) 19) 0)) 13) (fF (ck (ej (ck s0.2 0 0)) (mulL (nx s4 (nx s3 (nx s2 (nx s1 (nx s0 0))))) 19) 0))),
  ej (ck s2.2 (nx s1 (nx s0 0)) 0),ej (ck s3.2 (nx s2 (nx s1 (nx s0 0))) 0),ej (ck s4.2 (nx s3 (nx s2 (nx s1 (nx s0 0)))) 0)]
noncomputable def gS (a b:List Int):List Int:=gY (jt (j5 (sK a b 0) (sK a b 1) (sK a b 2) (sK a b 3) (sK a b 4)))
theorem Sj:au Tryz.prog [(132,Tryz.f132)]:=au.cons Tryz.func132 (by decide) au.nil
noncomputable def aeK:=mk (P:=Tryz.prog) [aeJ,DG,vm] [(132,Tryz.f132)]
theorem GW:ag Tryz.prog aeK:=ah _ Sj _ _
noncomputable def aeL (s0 s1 s2 s3 s4:Int×Int):Blk:=.b [.int .u64 s0.1,.int .u64 s0.2,.int .u64 s1.1,.int .u64 s1.2,.int .u64 s2.1,.int .u64 s2.2,.int .u64 s3.1,.int .u64 s3.2,.int .u64 s4.1,.int .u64 s4.2]
noncomputable def aeM (a b:List Int) (s0 s1 s2 s3 s4:Int×Int):St:=⟨slotsOf 127 [(4,.ptr 2 0 0),(5,.ptr 3 0 0)],[.b [.ints .u64 5 (aH 5 a)],.b [.ints .u64 5 (aH 5 b)],.b [.ints .u64 5 [0,0,0,0,0]],aeL s0 s1 s2 s3 s4],true⟩
theorem Nf (a b:List Int):(aW Tryz.prog aeK 100 0 4 (atoms (aE Tryz.f101)) ⟨aO Tryz.f101.ntmps [.agg [.ints .u64 5 (aH 5 a)],.agg [.ints .u64 5 (aH 5 b)]],[],true⟩).bind (St.cut [4,5] 4)=
 some (aeM a b (sK (aH 5 a) (aH 5 b) 0) (sK (aH 5 a) (aH 5 b) 1) (sK (aH 5 a) (aH 5 b) 2) (sK (aH 5 a) (aH 5 b) 3) (sK (aH 5 a) (aH 5 b) 4)):=by kernel_rfl
noncomputable def CC:List SV→Option (SV×List Blk×Bool)
 | [.agg [.ints .u64 5 a],.agg [.ints .u64 5 b]]=>some (.agg [.ints .u64 5 (gS (aH 5 a) (aH 5 b))],[],true)
 |_=>none
theorem YI (a b:List Int):ai Tryz.prog 101 [.agg [.ints .u64 5 (aH 5 a)],.agg [.ints .u64 5 (aH 5 b)]] [] (.agg [.ints .u64 5 (gS (aH 5 a) (aH 5 b))]) []:=by
 rw [gS,aD]
 generalize h0:sK (aH 5 a) (aH 5 b) 0=s0
 generalize h1:sK (aH 5 a) (aH 5 b) 1=s1
 generalize h2:sK (aH 5 a) (aH 5 b) 2=s2
 generalize h3:sK (aH 5 a) (aH 5 b) 3=s3
 generalize h4:sK (aH 5 a) (aH 5 b) 4=s4
 refine ai.cu GW 100 4 0 Tryz.func101 (by simp) rfl (fun s' x h=>?_) (s:=aeM a b s0 s1 s2 s3 s4) (p:=true) (by kernel_rfl) rfl rfl rfl
 refine bf.items GW 100 4 _ 4 (by simp) (Nf a b) rfl (by decide) ?_
 rw [h0,h1,h2,h3,h4]
 exact h
noncomputable def sE:Entry Tryz.prog:=.val 101 _ Tryz.func101 (by decide) rfl false 0 CC fun vs v new e=>by
 unfold CC at e
 split at e
 ·rename_i a b
  cases e
  exact ai.conv (YI a b) ⟨VE.aH _ _ _,VE.aH _ _ _,trivial⟩ trivial (VE.refl _) trivial
 ·cases e
end Go.Proofs.YtibfpjeeanppjaaGreat.Fe
namespace Go.Proofs.YtibfpjeeanppjaaGreat.Fe
open Go Go.Sy
def pL (n x:Int):Int:=gi .u64 (c7 .u64 n 8) (fZ x)
noncomputable def GX (a b c d e f g h:Int):Int:=gY (pL (pL (pL (pL (pL (pL (pL (pL 0 h) g) f) e) d) c) b) a)
noncomputable def iX (l:List Int) (i:Nat):Int:=GX (l.getD i 0) (l.getD (i+1) 0) (l.getD (i+2) 0) (l.getD (i+3) 0) (l.getD (i+4) 0) (l.getD (i+5) 0) (l.getD (i+6) 0) (l.getD (i+7) 0)
noncomputable def Ng:List SV→Option (SV×List Blk×Bool)
 | [.ro _ .u8 l]=>some (.int .u64 (iX l 0),[],decide (8≤l.length))
 |_=>none
def ix:Nat→Int
 |0=>7
 |k+1=>IntKind.i64.wrap (ix k-1)
def obW (n:Nat):Bool:=[0,1,2,3,4,5,6,7].foldl (fun o k=>aa (aa o (cL (ix k) n)) (decide ((ix k).toNat<n))) true
theorem Sk {n:Nat} (h:8≤n):obW n=true:=by
 have e:∀k,k≤7→ix k=7-k:=by decide
 have q:∀k:Nat,k≤7→cL (ix k) n=true∧decide ((ix k).toNat<n)=true:=fun k hk=>by
  rw [e k hk]
  unfold cL
  simp only [Bool.and_eq_true,decide_eq_true_eq]
  omega
 simp [obW,aa,q]
noncomputable def aeN:Entry Tryz.prog:=.val 137 _ Tryz.func137 (by decide) rfl true 0 Ng fun vs v new e=>by
 unfold Ng at e
 split at e
 ·rename_i f l
  simp only [Option.some.injEq,Prod.mk.injEq,decide_eq_true_eq] at e
  obtain ⟨rfl,rfl,h8⟩:=e
  rw [iX,GX,aD]
  exact aF mV 100 Tryz.func137 (p:=obW l.length) (by kernel_rfl) (Sk h8) rfl
 ·cases e
noncomputable def VB (l:List Int):List Int:=
 [ej (iX l 0),ej (gi .u64 (bO .u64 (iX l 0) 51) (c7 .u64 (iX l 8) 13)),ej (gi .u64 (bO .u64 (iX l 8) 38) (c7 .u64 (iX l 16) 26)),
  ej (gi .u64 (bO .u64 (iX l 16) 25) (c7 .u64 (iX l 24) 39)),ej (bO .u64 (iX l 24) 12)]
noncomputable def gn (l:List Int):List Int:=gY (VB (aH 32 l))
noncomputable def w7:List SV→Option (SV×List Blk×Bool)
 | [.agg [.ints .u8 32 l]]=>some (.agg [.ints .u64 5 (gn l)],[],true)
 |_=>none
theorem Sl:ag Tryz.prog (mk [aeN] []):=ah _ au.nil _ _
noncomputable def Ge:Entry Tryz.prog:=.val 105 _ Tryz.func105 (by decide) rfl false 0 w7 fun vs v new e=>by
 unfold w7 at e
 split at e
 ·rename_i l
  cases e
  refine ai.conv (bs:=[.agg [.ints .u8 32 (aH 32 l)]]) (h2:=[]) (h1:=[]) (v:=.agg [.ints .u64 5 (gn l)]) ?_ ⟨VE.aH _ _ _,trivial⟩ trivial (VE.refl _) trivial
  rw [gn,aD]
  exact aF Sl 100 Tryz.func105 (p:=true) (by kernel_rfl) rfl rfl
 ·cases e
def z5:List Int:=[0,0,0,0,0]
def ta (n:Int):List Int:=[ej (fZ n),fF (fZ n),0,0,0]
noncomputable def cF (n:Int):List Int:=bif decide (n<0) then gU (gU z5 (ta (IntKind.i64.wrap (0-IntKind.i64.wrap (n+1))))) [1,0,0,0,0] else ta n
noncomputable def rH:List SV→Option (SV×List Blk×Bool)
 | [.int .i64 n]=>some (.agg [.ints .u64 5 (cF n)],[],true)
 |_=>none
theorem CD (b:Bool):ag Tryz.prog (mk [KX] [] fun i=>if i=6 then some b else none):=ah _ au.nil _ _
noncomputable def fC:Entry Tryz.prog:=.val 65 _ Tryz.func65 (by decide) rfl false 0 rH fun vs v new e=>by
 unfold rH at e
 split at e
 ·rename_i n
  cases e
  unfold cF
  cases hn:decide (n<0) with
  |true=>exact aF (CD true) 100 Tryz.func65 (p:=aa true (decide (n<0))) (by kernel_rfl) (by rw [hn];rfl) rfl
  |false=>exact aF (CD false) 100 Tryz.func65 (p:=aa true (!decide (n<0))) (by kernel_rfl) (by rw [hn];rfl) rfl
 ·cases e
def t0 (a:List Int):Int:=fZ (a.getD 0 0+19)
def t1 (a:List Int):Int:=fZ (a.getD 1 0+fF (t0 a))
def t2 (a:List Int):Int:=fZ (a.getD 2 0+fF (t1 a))
def t3 (a:List Int):Int:=fZ (a.getD 3 0+fF (t2 a))
def t4 (a:List Int):Int:=fZ (a.getD 4 0+fF (t3 a))
def yM (a:List Int):List Int:=[ej (t0 a),ej (t1 a),ej (t2 a),ej (t3 a),ej (t4 a)]
def w8 (w:List Int):List Int:=
 (List.range 32).map fun i=>IntKind.u8.wrap (bO .u64 ([gi .u64 (w.getD 0 0) (c7 .u64 (w.getD 1 0) 51),gi .u64 (bO .u64 (w.getD 1 0) 13) (c7 .u64 (w.getD 2 0) 38),gi .u64 (bO .u64 (w.getD 2 0) 26) (c7 .u64 (w.getD 3 0) 25),
  gi .u64 (bO .u64 (w.getD 3 0) 39) (c7 .u64 (w.getD 4 0) 12)].getD (i/8) 0) (8*(i%8)))
noncomputable def fl (a:List Int):List Int:=gY (w8 (bif decide (fF (t4 (aH 5 (jt a)))>0) then yM (aH 5 (jt a)) else aH 5 (jt a)))
noncomputable def Nh:List SV→Option (SV×List Blk×Bool)
 | [.agg [.ints .u64 5 l]]=>some (.agg [.ints .u64 5 (aH 5 (jt l))],[],true)
 |_=>none
noncomputable def aeO:Entry Tryz.prog:=.val 104 _ Tryz.func104 (by decide) rfl false 0 Nh fun vs v new e=>by
 unfold Nh at e
 split at e
 ·rename_i l
  cases e
  exact ai.conv (Nb l) ⟨VE.refl _,trivial⟩ trivial (VE.aH _ _ _) trivial
 ·cases e
noncomputable def rI:List SV→Option (SV×List Blk×Bool)
 | [.agg [.ints .u64 5 a]]=>some (.agg [.ints .u8 32 (fl a)],[],true)
 |_=>none
theorem CE (b:Bool):ag Tryz.prog (mk [aeO] [] fun i=>if i=40 then some b else none):=ah _ au.nil _ _
noncomputable def zE:Entry Tryz.prog:=.val 66 _ Tryz.func66 (by decide) rfl false 0 rI fun vs v new e=>by
 unfold rI at e
 split at e
 ·rename_i a
  cases e
  unfold fl
  rw [aD]
  cases hn:decide (fF (t4 (aH 5 (jt a)))>0) with
  |true=>exact aF (CE true) 200 Tryz.func66 (p:=aa true (decide (fF (t4 (aH 5 (jt a)))>0))) (by kernel_rfl) (by rw [hn];rfl) rfl
  |false=>exact aF (CE false) 200 Tryz.func66 (p:=aa true (!decide (fF (t4 (aH 5 (jt a)))>0))) (by kernel_rfl) (by rw [hn];rfl) rfl
 ·cases e
end Go.Proofs.YtibfpjeeanppjaaGreat.Fe
namespace Go.Proofs.YtibfpjeeanppjaaGreat.Fe
open Go Go.Sy
noncomputable def Ni:List SV→Option (SV×List Blk×Bool)
 | [.agg [.ints .u8 32 e]]=>some (.fn (.func 130) [] [.ptr 0 0 0],[.b [.ints .u8 32 e]],true)
 |_=>none
noncomputable def U6:Entry Tryz.prog:=.val 98 _ Tryz.func98 (by decide) rfl false 1 Ni fun vs v new e=>by
 unfold Ni at e
 split at e
 ·cases e
  exact aQ mV 30 Tryz.func98 1 (by simp) (p:=true) (by kernel_rfl) rfl rfl rfl
 ·cases e
def uu (e:List Int) (i:Int):Int:=IntKind.i64.wrap (bS .u8 (bO .u8 (e.getD (0+(IntKind.i64.wrap (i.tdiv 8)).toNat) 0) (i.tmod 8).toNat) 1)
def K1 (i:Int):Bool:=aa (aa (aa (aa true (decide (i≥0))) (cL (IntKind.i64.wrap (i.tdiv 8)) 32)) (decide (0+(IntKind.i64.wrap (i.tdiv 8)).toNat<32))) (decide (0≤i.tmod 8))
theorem BF {i:Int} (h0:0≤i) (h1:i<256):K1 i=true:=by
 have e:i.tdiv 8=i/8:=Int.tdiv_eq_ediv_of_nonneg h0
 have e2:i.tmod 8=i%8:=Int.tmod_eq_emod_of_nonneg h0
 have w:IntKind.i64.wrap (i.tdiv 8)=i/8:=by rw [e];exact wrap_i64 _ (by omega) (by omega)
 unfold K1 cL
 rw [w,e2]
 simp only [av,Bool.and_eq_true,decide_eq_true_eq,true_and]
 omega
noncomputable def nD:Code:=inner (inner (aA 1 (aE Tryz.f130)))
noncomputable def ue (a e:List Int):Nat→List Int
 |0=>cF 1
 |j+1=>bif (uu e (255-j) != 0) then gS (aH 5 (gS (aH 5 (ue a e j)) (aH 5 (ue a e j)))) (aH 5 a) else gS (aH 5 (ue a e j)) (aH 5 (ue a e j))
noncomputable def pwC:Code:=aA 3 (aE Tryz.f135)
def pwT:List (Option SV):=slotsOf 19 [(2,.ptr 1 0 0),(4,.ptr 2 0 0),(5,.ptr 3 0 0),(8,.fn (.func 130) [] [.ptr 0 0 0])]
noncomputable def pwB (e a o:List Int):List Blk:=[.b [.ints .u8 32 e],.b [.ints .u64 5 a],.b [.ints .u64 5 z5],.b [.ints .u64 5 o]]
noncomputable def JS (e a o:List Int) (l:Nat):List Blk:=[.b [.ints .u8 32 e],.b [.ints .u64 5 a],.b [.ints .u64 5 z5],.b [.ints .u64 5 o],.g (some (FB pwC pwT l))]
noncomputable def JT (e a o:List Int) (l:Nat) (i:Int):St:=⟨slotsOf 20 [(0,.fn (.yield l) [] []),(1,.ptr 0 0 0),(3,.int .i64 i)],JS e a o l,true⟩
theorem Nj (x y:Bool):ag Tryz.prog (mk [sE,fC] [] fun i=>if i=5 then some x else if i=14 then some y else none):=ah _ au.nil _ _
theorem ES:ag Tryz.prog (mk [sE,fC] []):=ah _ au.nil _ _
section
variable (e a o:List Int) (l:Nat) (i:Int)
theorem YJ:(exec Tryz.prog (mk [sE,fC] [] fun i=>if i=5 then some true else if i=14 then some true else none) 60 5 nD (JT e a o l i)).bind (fun r=>(r.2.cut [0,1,3] 5).map fun q=>(r.1,q))=
  some (.normal,⟨(JT e a o l (IntKind.i64.wrap (i-1))).t,JS e a (gS (aH 5 (gS (aH 5 o) (aH 5 o))) (aH 5 a)) l,aa (K1 i) (aa (aa (aa (decide (l=l)) (decide (l=l))) (uu e i != 0)) (decide (l=l)))⟩):=by kernel_rfl
theorem So:(exec Tryz.prog (mk [sE,fC] [] fun i=>if i=5 then some true else if i=14 then some false else none) 60 5 nD (JT e a o l i)).bind (fun r=>(r.2.cut [0,1,3] 5).map fun q=>(r.1,q))=
  some (.normal,⟨(JT e a o l (IntKind.i64.wrap (i-1))).t,JS e a (gS (aH 5 o) (aH 5 o)) l,aa (K1 i) (aa (aa (aa (decide (l=l)) (decide (l=l))) (!(uu e i != 0))) (decide (l=l)))⟩):=by kernel_rfl
theorem YK:(exec Tryz.prog (mk [sE,fC] [] fun i=>if i=5 then some false else if i=14 then some false else none) 60 5 nD (JT e a o l i)).bind (fun r=>(r.2.cut [0,1,3] 5).map fun q=>(r.1,q))=
  some (.exit 0,⟨(JT e a o l i).t,JS e a o l,aa true (!decide (i≥0))⟩):=by kernel_rfl
theorem Nk:(aW Tryz.prog (mk [sE,fC] []) 60 5 1 (atoms (aE Tryz.f130)) ⟨aO Tryz.f130.ntmps [.fn (.yield l) [] [],.ptr 0 0 0],JS e a o l,true⟩).bind (St.cut [0,1,3] 5)=some (JT e a o l 255):=by kernel_rfl
theorem Sp:(aW Tryz.prog (mk [sE,fC] []) 60 1 3 (atoms (aE Tryz.f135)) ⟨aO Tryz.f135.ntmps [.agg [.ints .u64 5 a],.fn (.func 130) [] [.ptr 0 0 0]],[.b [.ints .u8 32 e]],true⟩).bind (St.cut [2,4,5,8] 4)=some ⟨pwT,pwB e a (cF 1),true⟩:=by kernel_rfl
end
theorem Sq (e a:List Int) (l:Nat):ai Tryz.prog 130 [.fn (.yield l) [] [],.ptr 0 0 0] (JS e a (cF 1) l) (.aT []) (JS e a (ue a e 256) l):=by
 have bY:Tr Tryz.prog none 5 (aA 1 (aE Tryz.f130)) (JT e a (cF 1) l 255) .normal (JT e a (ue a e 256) l (-1)):=by
  have key:=Tr.loop (P:=Tryz.prog) (ro:=none) (k:=5) 0 (c:=aA 1 (aE Tryz.f130)) (by kernel_rfl) (fun j:Nat=>JT e a (ue a e j) l (255-j)) 256 (s':=JT e a (ue a e 256) l (-1)) (fun j hj=>?_) ?_
  ·exact key
  ·have e1:(255:Int)-j-1=255-((j+1:Nat):Int):=by omega
   have hw:IntKind.i64.wrap (255-(j:Int)-1)=255-((j+1:Nat):Int):=by rw [wrap_i64 _ (by omega) (by omega),e1]
   have ho:=BF (i:=255-(j:Int)) (by omega) (by omega)
   cases hb:(uu e (255-(j:Int)) != 0) with
   |true=>
    have k:=YJ e a (ue a e j) l (255-j)
    rw [hw] at k
    refine Tr.post (Tr.cut (Nj true true) 60 _ 5 (by omega) k (by simp [aa,ho,hb])) (bq.same rfl ?_)
    show JS _ _ _ _=JS _ _ _ _
    rw [ue,hb];rfl
   |false=>
    have k:=So e a (ue a e j) l (255-j)
    rw [hw] at k
    refine Tr.post (Tr.cut (Nj true false) 60 _ 5 (by omega) k (by simp [aa,ho,hb])) (bq.same rfl ?_)
    show JS _ _ _ _=JS _ _ _ _
    rw [ue,hb];rfl
  ·have k:=YK e a (ue a e 256) l (-1)
   exact Tr.post (Tr.cut (Nj false false) 60 _ 5 (by omega) k rfl) (bq.same rfl rfl)
 refine ai.mk (vs:=[]) Tryz.func130 rfl (x:=.normal) (s:=JT e a (ue a e 256) l (-1)) ?_ (.inr rfl) (by kernel_rfl)
 refine bf.items ES 60 1 _ 5 (by simp [JS]) (Nk e a (cF 1) l) rfl (by decide) ?_
 exact bf.item 1 (by decide) bY ⟨rfl,rfl⟩
noncomputable def w9 (a e:List Int):List Int:=gY (ue a e 256)
theorem aeP (e a:List Int):ai Tryz.prog 135 [.agg [.ints .u64 5 a],.fn (.func 130) [] [.ptr 0 0 0]] [.b [.ints .u8 32 e]] (.agg [.ints .u64 5 (w9 a e)]) [.b [.ints .u8 32 e]]:=by
 rw [w9,aD]
 refine ai.cu ES 60 4 1 Tryz.func135 (by simp) rfl (fun s' x h=>?_) (s:=⟨pwT,pwB e a (ue a e 256)++[.gap],true⟩) (p:=true) (by kernel_rfl) rfl rfl rfl
 refine bf.items ES 60 3 _ 4 (by simp) (Sp e a) rfl (by decide) ?_
 refine bf.item 3 (by decide) ?_ h
 exact Tr.y6 0 (by kernel_rfl) (f:=130) (first:=[]) (kG:=[.ptr 0 0 0]) true Tryz.func130 (by decide) rfl (by kernel_rfl) (fun l=>Sq e a l)
  (fun l=>⟨_,rfl,rfl,by simp [FB],rfl⟩) (fun l=>rfl)
end Go.Proofs.YtibfpjeeanppjaaGreat.Fe
namespace Go.Proofs.YtibfpjeeanppjaaGreat.Fe
open Go Go.Sy
def aeQ (vs:List SV):List Nat:=match vs with
 | [_,.fn _ _ [.ptr b _ _]]=>[b]
 |_=>[]
noncomputable def CF:List SV→List Blk→Option (SV×Bool)
 | [.agg [.ints .u64 5 a],.fn (.func 130) [] [.ptr 0 0 0]],[.b [.ints .u8 32 e]]=>some (.agg [.ints .u64 5 (w9 a e)],true)
 |_,_=>none
noncomputable def YL:Entry Tryz.prog:=.Qo 135 _ Tryz.func135 (by decide) rfl aeQ CF fun vs h0 v e=>by
 unfold CF at e
 split at e
 ·cases e;exact aeP _ _
 ·cases e
def e2:List Int:=235::(List.replicate 30 255++[127])
def e1:List Int:=251::(List.replicate 30 255++[31])
def e5:List Int:=253::(List.replicate 30 255++[15])
noncomputable def GY:List (FuncId×Func):=[(65,Tryz.f65),(103,Tryz.f103),(104,Tryz.f104),(66,Tryz.f66)]
theorem ET:au Tryz.prog GY:=
 au.cons Tryz.func65 (by decide) (au.cons Tryz.func103 (by decide) (au.cons Tryz.func104 (by decide) (au.cons Tryz.func66 (by decide) au.nil)))
theorem Ai:ag Tryz.prog (mk (P:=Tryz.prog) [] GY):=ah _ ET _ _
noncomputable def Nl:List SV→Option (SV×List Blk×Bool)
 | [.int .i64 n,.int .i64 m]=>bif n==2&&m==0 then some (.agg [.ints .u8 32 e2],[],true) else bif n==1&&m==2 then some (.agg [.ints .u8 32 e1],[],true) else bif n==5&&m==3 then some (.agg [.ints .u8 32 e5],[],true) else none
 |_=>none
theorem aeR:ai Tryz.prog 136 [.int .i64 2,.int .i64 0] [] (.agg [.ints .u8 32 e2]) []:=aF Ai 300 Tryz.func136 (p:=true) (by kernel_rfl) rfl rfl
theorem aeS:ai Tryz.prog 136 [.int .i64 1,.int .i64 2] [] (.agg [.ints .u8 32 e1]) []:=aF Ai 300 Tryz.func136 (p:=true) (by kernel_rfl) rfl rfl
theorem aeT:ai Tryz.prog 136 [.int .i64 5,.int .i64 3] [] (.agg [.ints .u8 32 e5]) []:=aF Ai 300 Tryz.func136 (p:=true) (by kernel_rfl) rfl rfl
noncomputable def aeU:Entry Tryz.prog:=.val 136 _ Tryz.func136 (by decide) rfl false 0 Nl fun vs v new e=>by
 unfold Nl at e
 split at e
 ·rename_i n m
  by_cases h1:(n==2&&m==0)=true
  ·rw [h1] at e
   simp only [Bool.and_eq_true,beq_iff_eq] at h1
   obtain ⟨rfl,rfl⟩:=h1
   cases e;exact aeR
  ·rw [Bool.not_eq_true] at h1
   rw [h1] at e
   by_cases h2:(n==1&&m==2)=true
   ·rw [h2] at e
    simp only [Bool.and_eq_true,beq_iff_eq] at h2
    obtain ⟨rfl,rfl⟩:=h2
    cases e;exact aeS
   ·rw [Bool.not_eq_true] at h2
    rw [h2] at e
    by_cases h3:(n==5&&m==3)=true
    ·rw [h3] at e
     simp only [Bool.and_eq_true,beq_iff_eq] at h3
     obtain ⟨rfl,rfl⟩:=h3
     cases e;exact aeT
    ·rw [Bool.not_eq_true] at h3
     rw [h3] at e
     cases e
 ·cases e
end Go.Proofs.YtibfpjeeanppjaaGreat.Fe
