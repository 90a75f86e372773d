/- This file proves what words' operations come to as arithmetic, and the contracts of the library's Add64, Mul64. Conditions: numbers within their kinds. -/
import Derived.Test.YtibfpjeeanppjaaGreatUMd
import Derived.Test.YtibfpjeeanppjaaGreatChecked
import Derived.Laws.Externs
import Derived.Laws.BitsLemmas
import Derived.IntWalk
set_option linter.all false
set_option maxRecDepth 100000
namespace Go.Proofs.YtibfpjeeanppjaaGreat.Fe
open Go Go.Sy
def inU (m:Int) (x:Int):Bool:=decide (0≤x)&&decide (x<m)
def u64 (x:Int):Bool:=inU 18446744073709551616 x
def u8 (x:Int):Bool:=inU 256 x
theorem jr {x:Int}:u64 x=true↔0≤x∧x<18446744073709551616:=by simp [u64,inU]
theorem mh {x:Int}:u8 x=true↔0≤x∧x<256:=by simp [u8,inU]
theorem wraps_u64 (n:Int) (h₀:0≤n) (h₁:n<2^64):IntKind.u64.wrap n=n:=by
 have e:(2:Int)^64=18446744073709551616:=by decide
 rw [e] at h₁
 rw [show IntKind.u64.wrap n=n%2^64 from by simp [IntKind.wrap,IntKind.signed,IntKind.bits],e]
 omega
theorem wrap_u64 (n:Int):IntKind.u64.wrap n=n%18446744073709551616:=by simp [IntKind.wrap,IntKind.signed,IntKind.bits]
theorem wrap_u8 (n:Int):IntKind.u8.wrap n=n%256:=by simp [IntKind.wrap,IntKind.signed,IntKind.bits]
theorem wrap_i64 (n:Int) (h0: -9223372036854775808≤n) (h1:n<9223372036854775808):IntKind.i64.wrap n=n:=IntWalk.i64_in n (by omega)
theorem sL (i:Nat) (x y:Int) (hx₀:0≤x) (hx:x%2^i=0) (hx₁:x<18446744073709551616) (hy₀:0≤y) (hy:y<2^i) (hi:i≤64):gj .u64 x y=x+y:=by
 have e:(2:Int)^64=18446744073709551616:=by decide
 have h2:(2:Int)^i≤2^64:=by exact_mod_cast Nat.pow_le_pow_right (by decide) hi
 exact bits_join .u64 64 (by decide) wraps_u64 i x y hx₀ hx (by rw [e];exact hx₁) hy₀ hy (by omega)
theorem dj (k:IntKind) (a:Int) (n:Nat) (hn:n≤k.bits):bh k a n=a/2^n:=by
 unfold bh
 rw [Nat.min_eq_left hn,Int.fdiv_eq_ediv_of_nonneg]
 exact_mod_cast Nat.zero_le (2^n)
theorem kF (a:Int) (n:Nat) (hn:n≤64):cV .u64 a n=a*2^n%18446744073709551616:=by
 unfold cV
 rw [show min n IntKind.u64.bits=n from Nat.min_eq_left hn,wrap_u64]
theorem LB (i:Nat) (hi:i≤64) (x:Int) (h0:0≤x) (h1:x<18446744073709551616):bR .u64 x (2^i-1)=x%2^i:=by
 exact (bits_mask .u64 64 (by decide) wraps_u64 i hi x h0 h1:bits .and .u64 x (2^i-1)=x%2^i)
theorem LC (x:Int) (h0:0≤x) (h1:x<256):bR .u8 x 1=x%2:=by
 exact (bits_mask .u8 8 (by decide) wraps_u8 1 (by decide) x h0 h1:bits .and .u8 x (2^1-1)=x%2^1)
theorem ep (x:Int) (h0:0≤x) (h1:x<18446744073709551616):bR .u64 x 2251799813685247=x%2251799813685248:=LB 51 (by decide) x h0 h1
theorem CG (x:Int) (h0:0≤x) (h1:x<18446744073709551616):bR .u64 x 4294967295=x%4294967296:=LB 32 (by decide) x h0 h1
theorem kG (x:Int):bh .u64 x 51=x/2251799813685248:=by rw [dj _ _ _ (by decide)];simp
noncomputable def b8 (x y c:Int):Int:=gz (Int.ofNat ((x.toNat+y.toNat+c.toNat)%Extern.MathBitsCarry.m64))
noncomputable def bG (x y c:Int):Int:=gz (Int.ofNat ((x.toNat+y.toNat+c.toNat)/Extern.MathBitsCarry.m64))
def cS (c:Int):Bool:=decide (c.toNat≤1)
theorem CH {P:Program} (x y c:Int) (hc:cS c=true) (w:World):
  (add64Entry #[.int .u64 x,.int .u64 y,.int .u64 c]).run P w= .ok (.tuple #[.int .u64 (b8 x y c),.int .u64 (bG x y c)]) w:=by
 unfold b8 bG
 rw [aq,aq]
 rcases c with (_|_|k)|n
 ·rfl
 ·rfl
 ·simp [cS] at hc;omega
 ·rfl
theorem pG {x y c:Int} (hx:0≤x) (hy:0≤y) (hc:0≤c):b8 x y c=(x+y+c)%18446744073709551616∧bG x y c=(x+y+c)/18446744073709551616:=by
 unfold b8 bG
 rw [aq,aq]
 have:Extern.MathBitsCarry.m64=18446744073709551616:=rfl
 rw [this]
 simp only [Int.ofNat_eq_natCast]
 omega
noncomputable def LD:List SV→Option (SV×Bool)
 | [.int .u64 x,.int .u64 y,.int .u64 c]=>some (.bk [.int .u64 (b8 x y c),.int .u64 (bG x y c)],cS c)
 |_=>none
noncomputable def tv:Entry Tryz.prog:=.ext 133 LD fun vs v e en w args hl=>by
 unfold LD at e
 split at e
 ·rename_i x y c
  simp only [Option.some.injEq,Prod.mk.injEq] at e
  obtain ⟨rfl,hc⟩:=e
  obtain ⟨_,_,rfl,⟨_,_,rfl,⟨_,_,rfl,rfl,rfl⟩,rfl⟩,rfl⟩:=hl
  refine ⟨_,?_,⟨_,⟨_,_,rfl,⟨_,_,rfl,rfl,rfl⟩,rfl⟩,rfl⟩⟩
  rw [run_callFunc_extern Tryz.func133 (by kernel_rfl) (by kernel_rfl) (by kernel_rfl) (e:=add64Entry) (by kernel_rfl),CH x y c hc]
  rfl
 ·cases e
theorem lV:ag Tryz.prog (mk (P:=Tryz.prog) [] []):=ai [] aF.nil _ _
def HO (x y:Int):Int:=IntKind.u64.wrap (IntKind.u64.wrap (bh .u64 x 32*bR .u64 y 4294967295)+bh .u64 (IntKind.u64.wrap (bR .u64 x 4294967295*bR .u64 y 4294967295)) 32)
noncomputable def eO (x y:Int):Int:=gz (IntKind.u64.wrap (IntKind.u64.wrap (IntKind.u64.wrap (bh .u64 x 32*bh .u64 y 32)+bh .u64 (HO x y) 32)+
 bh .u64 (IntKind.u64.wrap (bR .u64 (HO x y) 4294967295+IntKind.u64.wrap (bR .u64 x 4294967295*bh .u64 y 32))) 32))
noncomputable def mulL (x y:Int):Int:=gz (IntKind.u64.wrap (x*y))
noncomputable def LF:List SV→Option (SV×List Blk×Bool)
 | [.int .u64 x,.int .u64 y]=>some (.bk [.int .u64 (eO x y),.int .u64 (mulL x y)],[],true)
 |_=>none
noncomputable def Br:Entry Tryz.prog:=.val 134 _ Tryz.func134 (by decide) rfl false 0 LF fun vs v new e=>by
 unfold LF at e
 split at e
 ·rename_i x y
  cases e
  rw [eO,mulL,aq,aq]
  exact aP lV 60 Tryz.func134 (p:=true) (by kernel_rfl) rfl rfl
 ·cases e
theorem cJ {x y m n:Int} (hx0:0≤x) (hx:x≤m) (hy0:0≤y) (hy:y≤n):0≤x*y∧x*y≤m*n:=
 ⟨Int.mul_nonneg hx0 hy0,Int.mul_le_mul hx hy hy0 (by omega)⟩
theorem va {x y:Int} (hx0:0≤x) (hx:x<18446744073709551616) (hy0:0≤y) (hy:y<18446744073709551616):
  18446744073709551616*eO x y+mulL x y=x*y∧0≤eO x y∧eO x y≤18446744073709551614∧0≤mulL x y∧mulL x y<18446744073709551616:=by
 rw [eO,mulL,aq,aq]
 unfold HO
 have s:∀z:Int,bh .u64 z 32=z/4294967296:=fun z=>by rw [dj _ _ _ (by decide)];simp
 simp only [s,CG x hx0 hx,CG y hy0 hy,wrap_u64]
 have a0:0≤x%4294967296∧x%4294967296≤4294967295:=by omega
 have a1:0≤x/4294967296∧x/4294967296≤4294967295:=by omega
 have b0:0≤y%4294967296∧y%4294967296≤4294967295:=by omega
 have b1:0≤y/4294967296∧y/4294967296≤4294967295:=by omega
 have ex:x=4294967296*(x/4294967296)+x%4294967296:=by omega
 have ey:y=4294967296*(y/4294967296)+y%4294967296:=by omega
 have hp:x*y=18446744073709551616*(x/4294967296*(y/4294967296))+4294967296*(x/4294967296*(y%4294967296))+4294967296*(x%4294967296*(y/4294967296))+x%4294967296*(y%4294967296):=by
  conv=>lhs;rw [ex,ey]
  generalize x/4294967296=u
  generalize x%4294967296=v
  generalize y/4294967296=p
  generalize y%4294967296=q
  grind
 have m11:=cJ a1.1 a1.2 b1.1 b1.2
 have m10:=cJ a1.1 a1.2 b0.1 b0.2
 have m01:=cJ a0.1 a0.2 b1.1 b1.2
 have m00:=cJ a0.1 a0.2 b0.1 b0.2
 rw [hp]
 generalize x/4294967296*(y/4294967296)=A at*
 generalize x/4294967296*(y%4294967296)=B at*
 generalize x%4294967296*(y/4294967296)=C at*
 generalize x%4294967296*(y%4294967296)=D at*
 clear ex ey hp
 have t0:(B%18446744073709551616+D%18446744073709551616/4294967296)%18446744073709551616=B+D/4294967296:=by omega
 rw [t0,CG _ (by omega) (by omega)]
 generalize hT:B+D/4294967296=T at*
 have r1:(T%4294967296+C%18446744073709551616)%18446744073709551616=T%4294967296+C:=by omega
 rw [r1]
 refine ⟨?_,?_,?_,?_,?_⟩<;>omega
end Go.Proofs.YtibfpjeeanppjaaGreat.Fe
namespace Go.Proofs.YtibfpjeeanppjaaGreat.Fe
open Go Go.Sy
theorem VE.aO (k:IntKind) (n:Nat) (l:List Int):VE (.agg [.ints k n l]) (.agg [.ints k n (aO n l)]):=fun e _ ⟨ys,h1,h2⟩=>⟨ys,(PE.aO k n l).2 e ys h1,h2⟩
abbrev fJ (n:Int):Int:=IntKind.u64.wrap n
abbrev dR (n:Int):Int:=bR .u64 n 2251799813685247
abbrev fk (n:Int):Int:=bh .u64 n 51
def cw0 (l:List Int):Int:=fJ (l.getD 0 0+0)
def cw1 (l:List Int):Int:=fJ (l.getD 1 0+fk (cw0 l))
def cw2 (l:List Int):Int:=fJ (l.getD 2 0+fk (cw1 l))
def cw3 (l:List Int):Int:=fJ (l.getD 3 0+fk (cw2 l))
def cw4 (l:List Int):Int:=fJ (l.getD 4 0+fk (cw3 l))
def AN (l:List Int):List Int:=[fJ (dR (cw0 l)+fJ (19*fk (cw4 l))),dR (cw1 l),dR (cw2 l),dR (cw3 l),dR (cw4 l)]
noncomputable def iS (l:List Int):List Int:=gz (AN (AN (aO 5 l)))
noncomputable def S7:List SV→Option (SV×List Blk×Bool)
 | [.agg [.ints .u64 5 l]]=>some (.agg [.ints .u64 5 (iS l)],[],true)
 |_=>none
theorem LG (l:List Int):aj Tryz.prog 104 [.agg [.ints .u64 5 l]] [] (.agg [.ints .u64 5 (iS l)]) []:=by
 refine aj.conv (bs:=[.agg [.ints .u64 5 (aO 5 l)]]) (h2:=[]) (h1:=[]) (v:=.agg [.ints .u64 5 (iS l)]) ?_ ⟨VE.aO _ _ _,trivial⟩ trivial (VE.refl _) trivial
 rw [iS,aq]
 exact aP lV 100 Tryz.func104 (p:=true) (by kernel_rfl) rfl rfl
noncomputable def abv:Entry Tryz.prog:=.val 104 _ Tryz.func104 (by decide) rfl false 0 S7 fun vs v new e=>by
 unfold S7 at e
 split at e
 ·cases e;exact LG _
 ·cases e
def P6 (a b:List Int):List Int:=[fJ (a.getD 0 0+b.getD 0 0),fJ (a.getD 1 0+b.getD 1 0),fJ (a.getD 2 0+b.getD 2 0),fJ (a.getD 3 0+b.getD 3 0),fJ (a.getD 4 0+b.getD 4 0)]
noncomputable def gr (a b:List Int):List Int:=iS (P6 a b)
noncomputable def AO:List SV→Option (SV×List Blk×Bool)
 | [.agg [.ints .u64 5 a],.agg [.ints .u64 5 b]]=>some (.agg [.ints .u64 5 (gr a b)],[],true)
 |_=>none
theorem LH:ag Tryz.prog (mk [abv] []):=ai _ aF.nil _ _
noncomputable def tC:Entry Tryz.prog:=.val 131 _ Tryz.func131 (by decide) rfl false 0 AO fun vs v new e=>by
 unfold AO at e
 split at e
 ·rename_i a b
  cases e
  refine aj.conv (bs:=[.agg [.ints .u64 5 (aO 5 a)],.agg [.ints .u64 5 (aO 5 b)]]) (h2:=[]) (h1:=[]) (v:=.agg [.ints .u64 5 (gr a b)]) ?_ ⟨VE.aO _ _ _,VE.aO _ _ _,trivial⟩ trivial (VE.refl _) trivial
  exact aP LH 100 Tryz.func131 (p:=true) (by kernel_rfl) rfl rfl
 ·cases e
def LI (a b:List Int):List Int:=[fJ (a.getD 0 0+fJ (9007199254740916-b.getD 0 0)),fJ (a.getD 1 0+fJ (9007199254740988-b.getD 1 0)),fJ (a.getD 2 0+fJ (9007199254740988-b.getD 2 0)),fJ (a.getD 3 0+fJ (9007199254740988-b.getD 3 0)),fJ (a.getD 4 0+fJ (9007199254740988-b.getD 4 0))]
noncomputable def gu (a b:List Int):List Int:=iS (LI a b)
noncomputable def AP:List SV→Option (SV×List Blk×Bool)
 | [.agg [.ints .u64 5 a],.agg [.ints .u64 5 b]]=>some (.agg [.ints .u64 5 (gu a b)],[],true)
 |_=>none
noncomputable def JP:Entry Tryz.prog:=.val 103 _ Tryz.func103 (by decide) rfl false 0 AP fun vs v new e=>by
 unfold AP at e
 split at e
 ·rename_i a b
  cases e
  refine aj.conv (bs:=[.agg [.ints .u64 5 (aO 5 a)],.agg [.ints .u64 5 (aO 5 b)]]) (h2:=[]) (h1:=[]) (v:=.agg [.ints .u64 5 (gu a b)]) ?_ ⟨VE.aO _ _ _,VE.aO _ _ _,trivial⟩ trivial (VE.refl _) trivial
  exact aP LH 100 Tryz.func103 (p:=true) (by kernel_rfl) rfl rfl
 ·cases e
end Go.Proofs.YtibfpjeeanppjaaGreat.Fe
namespace Go.Proofs.YtibfpjeeanppjaaGreat.Fe
open Go Go.Sy
noncomputable def pl (s:Int×Int) (x y:Int):Int×Int:=(fJ (s.1+fJ (eO x y+bG s.2 (mulL x y) 0)),b8 s.2 (mulL x y) 0)
def yB (b:List Int) (k i:Nat):Int:=if i≤k then b.getD (k-i) 0 else fJ (b.getD (k+5-i) 0*19)
noncomputable def sK (a b:List Int) (k:Nat):Int×Int:=[0,1,2,3,4].foldl (fun s i=>pl s (a.getD i 0) (yB b k i)) (0,0)
noncomputable def nx (s:Int×Int) (c:Int):Int:=gj .u64 (fk (b8 s.2 c 0)) (cV .u64 (fJ (s.1+bG s.2 c 0)) 13)
noncomputable def jN (s0 s1 s2 s3 s4:Int×Int):List Int:=
 [dR (b8 (dR (b8 s0.2 0 0)) (mulL (nx s4 (nx s3 (nx s2 (nx s1 (nx s0 0))))) 19) 0),
  fJ (dR (b8 s1.2 (nx s0 0) 0)+gj .u64 (cV .u64 (fJ (eO (nx s4 (nx s3 (nx s2 (nx s1 (nx s0 0))))) 19+bG (dR (b8 s0.2 0 0)) (mulL (nx s4 (nx s3 (nx s2 (nx s1 (nx s0 0))))) 19) 0)) 13) (fk (b8 (dR (b8 s0.2 0 0)) (mulL (nx s4 (nx s3 (nx s2 (nx s1 (nx s0 0))))) 19) 0))),
  dR (b8 s2.2 (nx s1 (nx s0 0)) 0),dR (b8 s3.2 (nx s2 (nx s1 (nx s0 0))) 0),dR (b8 s4.2 (nx s3 (nx s2 (nx s1 (nx s0 0)))) 0)]
noncomputable def gq (a b:List Int):List Int:=gz (iS (jN (sK a b 0) (sK a b 1) (sK a b 2) (sK a b 3) (sK a b 4)))
theorem P7:aF Tryz.prog [(132,Tryz.f132)]:=aF.cons Tryz.func132 (by decide) aF.nil
noncomputable def abw:=mk (P:=Tryz.prog) [abv,Br,tv] [(132,Tryz.f132)]
theorem EB:ag Tryz.prog abw:=ai _ P7 _ _
noncomputable def abx (s0 s1 s2 s3 s4:Int×Int):Blk:=.b [.int .u64 s0.1,.int .u64 s0.2,.int .u64 s1.1,.int .u64 s1.2,.int .u64 s2.1,.int .u64 s2.2,.int .u64 s3.1,.int .u64 s3.2,.int .u64 s4.1,.int .u64 s4.2]
noncomputable def aby (a b:List Int) (s0 s1 s2 s3 s4:Int×Int):St:=⟨slotsOf 127 [(4,.ptr 2 0 0),(5,.ptr 3 0 0)],[.b [.ints .u64 5 (aO 5 a)],.b [.ints .u64 5 (aO 5 b)],.b [.ints .u64 5 [0,0,0,0,0]],abx s0 s1 s2 s3 s4],true⟩
theorem LJ (a b:List Int):(az Tryz.prog abw 100 0 4 (atoms (aH Tryz.f101)) ⟨aT Tryz.f101.ntmps [.agg [.ints .u64 5 (aO 5 a)],.agg [.ints .u64 5 (aO 5 b)]],[],true⟩).bind (St.cut [4,5] 4)=
 some (aby a b (sK (aO 5 a) (aO 5 b) 0) (sK (aO 5 a) (aO 5 b) 1) (sK (aO 5 a) (aO 5 b) 2) (sK (aO 5 a) (aO 5 b) 3) (sK (aO 5 a) (aO 5 b) 4)):=by kernel_rfl
noncomputable def AQ:List SV→Option (SV×List Blk×Bool)
 | [.agg [.ints .u64 5 a],.agg [.ints .u64 5 b]]=>some (.agg [.ints .u64 5 (gq (aO 5 a) (aO 5 b))],[],true)
 |_=>none
theorem Wp (a b:List Int):aj Tryz.prog 101 [.agg [.ints .u64 5 (aO 5 a)],.agg [.ints .u64 5 (aO 5 b)]] [] (.agg [.ints .u64 5 (gq (aO 5 a) (aO 5 b))]) []:=by
 rw [gq,aq]
 generalize h0:sK (aO 5 a) (aO 5 b) 0=s0
 generalize h1:sK (aO 5 a) (aO 5 b) 1=s1
 generalize h2:sK (aO 5 a) (aO 5 b) 2=s2
 generalize h3:sK (aO 5 a) (aO 5 b) 3=s3
 generalize h4:sK (aO 5 a) (aO 5 b) 4=s4
 refine aj.cg EB 100 4 0 Tryz.func101 (by simp) rfl (fun s' x h=>?_) (s:=aby a b s0 s1 s2 s3 s4) (p:=true) (by kernel_rfl) rfl rfl rfl
 refine aG.items EB 100 4 _ 4 (by simp) (LJ a b) rfl (by decide) ?_
 rw [h0,h1,h2,h3,h4]
 exact h
noncomputable def qI:Entry Tryz.prog:=.val 101 _ Tryz.func101 (by decide) rfl false 0 AQ fun vs v new e=>by
 unfold AQ at e
 split at e
 ·rename_i a b
  cases e
  exact aj.conv (Wp a b) ⟨VE.aO _ _ _,VE.aO _ _ _,trivial⟩ trivial (VE.refl _) trivial
 ·cases e
end Go.Proofs.YtibfpjeeanppjaaGreat.Fe
namespace Go.Proofs.YtibfpjeeanppjaaGreat.Fe
open Go Go.Sy
def ov (n x:Int):Int:=gj .u64 (cV .u64 n 8) (fJ x)
noncomputable def EC (a b c d e f g h:Int):Int:=gz (ov (ov (ov (ov (ov (ov (ov (ov 0 h) g) f) e) d) c) b) a)
noncomputable def iz (l:List Int) (i:Nat):Int:=EC (l.getD i 0) (l.getD (i+1) 0) (l.getD (i+2) 0) (l.getD (i+3) 0) (l.getD (i+4) 0) (l.getD (i+5) 0) (l.getD (i+6) 0) (l.getD (i+7) 0)
noncomputable def LK:List SV→Option (SV×List Blk×Bool)
 | [.ro _ .u8 l]=>some (.int .u64 (iz l 0),[],decide (8≤l.length))
 |_=>none
def ix:Nat→Int
 |0=>7
 |k+1=>IntKind.i64.wrap (ix k-1)
def obW (n:Nat):Bool:=[0,1,2,3,4,5,6,7].foldl (fun o k=>aa (aa o (cK (ix k) n)) (decide ((ix k).toNat<n))) true
theorem P8 {n:Nat} (h:8≤n):obW n=true:=by
 have e:∀k,k≤7→ix k=7-k:=by decide
 have q:∀k:Nat,k≤7→cK (ix k) n=true∧decide ((ix k).toNat<n)=true:=fun k hk=>by
  rw [e k hk]
  unfold cK
  simp only [Bool.and_eq_true,decide_eq_true_eq]
  omega
 simp [obW,aa,q]
noncomputable def abz:Entry Tryz.prog:=.val 137 _ Tryz.func137 (by decide) rfl true 0 LK fun vs v new e=>by
 unfold LK at e
 split at e
 ·rename_i f l
  simp only [Option.some.injEq,Prod.mk.injEq,decide_eq_true_eq] at e
  obtain ⟨rfl,rfl,h8⟩:=e
  rw [iz,EC,aq]
  exact aP lV 100 Tryz.func137 (p:=obW l.length) (by kernel_rfl) (P8 h8) rfl
 ·cases e
noncomputable def S8 (l:List Int):List Int:=
 [dR (iz l 0),dR (gj .u64 (bh .u64 (iz l 0) 51) (cV .u64 (iz l 8) 13)),dR (gj .u64 (bh .u64 (iz l 8) 38) (cV .u64 (iz l 16) 26)),
  dR (gj .u64 (bh .u64 (iz l 16) 25) (cV .u64 (iz l 24) 39)),dR (bh .u64 (iz l 24) 12)]
noncomputable def fP (l:List Int):List Int:=gz (S8 (aO 32 l))
noncomputable def vb:List SV→Option (SV×List Blk×Bool)
 | [.agg [.ints .u8 32 l]]=>some (.agg [.ints .u64 5 (fP l)],[],true)
 |_=>none
theorem P9:ag Tryz.prog (mk [abz] []):=ai _ aF.nil _ _
noncomputable def D1:Entry Tryz.prog:=.val 105 _ Tryz.func105 (by decide) rfl false 0 vb fun vs v new e=>by
 unfold vb at e
 split at e
 ·rename_i l
  cases e
  refine aj.conv (bs:=[.agg [.ints .u8 32 (aO 32 l)]]) (h2:=[]) (h1:=[]) (v:=.agg [.ints .u64 5 (fP l)]) ?_ ⟨VE.aO _ _ _,trivial⟩ trivial (VE.refl _) trivial
  rw [fP,aq]
  exact aP P9 100 Tryz.func105 (p:=true) (by kernel_rfl) rfl rfl
 ·cases e
def z5:List Int:=[0,0,0,0,0]
def ru (n:Int):List Int:=[dR (fJ n),fk (fJ n),0,0,0]
noncomputable def cz (n:Int):List Int:=bif decide (n<0) then gu (gu z5 (ru (IntKind.i64.wrap (0-IntKind.i64.wrap (n+1))))) [1,0,0,0,0] else ru n
noncomputable def ql:List SV→Option (SV×List Blk×Bool)
 | [.int .i64 n]=>some (.agg [.ints .u64 5 (cz n)],[],true)
 |_=>none
theorem AR (b:Bool):ag Tryz.prog (mk [JP] [] fun i=>if i=6 then some b else none):=ai _ aF.nil _ _
noncomputable def fe:Entry Tryz.prog:=.val 65 _ Tryz.func65 (by decide) rfl false 0 ql fun vs v new e=>by
 unfold ql at e
 split at e
 ·rename_i n
  cases e
  unfold cz
  cases hn:decide (n<0) with
  |true=>exact aP (AR true) 100 Tryz.func65 (p:=aa true (decide (n<0))) (by kernel_rfl) (by rw [hn];rfl) rfl
  |false=>exact aP (AR false) 100 Tryz.func65 (p:=aa true (!decide (n<0))) (by kernel_rfl) (by rw [hn];rfl) rfl
 ·cases e
def t0 (a:List Int):Int:=fJ (a.getD 0 0+19)
def t1 (a:List Int):Int:=fJ (a.getD 1 0+fk (t0 a))
def t2 (a:List Int):Int:=fJ (a.getD 2 0+fk (t1 a))
def t3 (a:List Int):Int:=fJ (a.getD 3 0+fk (t2 a))
def t4 (a:List Int):Int:=fJ (a.getD 4 0+fk (t3 a))
def wX (a:List Int):List Int:=[dR (t0 a),dR (t1 a),dR (t2 a),dR (t3 a),dR (t4 a)]
def vc (w:List Int):List Int:=
 (List.range 32).map fun i=>IntKind.u8.wrap (bh .u64 ([gj .u64 (w.getD 0 0) (cV .u64 (w.getD 1 0) 51),gj .u64 (bh .u64 (w.getD 1 0) 13) (cV .u64 (w.getD 2 0) 38),gj .u64 (bh .u64 (w.getD 2 0) 26) (cV .u64 (w.getD 3 0) 25),
  gj .u64 (bh .u64 (w.getD 3 0) 39) (cV .u64 (w.getD 4 0) 12)].getD (i/8) 0) (8*(i%8)))
noncomputable def eR (a:List Int):List Int:=gz (vc (bif decide (fk (t4 (aO 5 (iS a)))>0) then wX (aO 5 (iS a)) else aO 5 (iS a)))
noncomputable def LL:List SV→Option (SV×List Blk×Bool)
 | [.agg [.ints .u64 5 l]]=>some (.agg [.ints .u64 5 (aO 5 (iS l))],[],true)
 |_=>none
noncomputable def abA:Entry Tryz.prog:=.val 104 _ Tryz.func104 (by decide) rfl false 0 LL fun vs v new e=>by
 unfold LL at e
 split at e
 ·rename_i l
  cases e
  exact aj.conv (LG l) ⟨VE.refl _,trivial⟩ trivial (VE.aO _ _ _) trivial
 ·cases e
noncomputable def qm:List SV→Option (SV×List Blk×Bool)
 | [.agg [.ints .u64 5 a]]=>some (.agg [.ints .u8 32 (eR a)],[],true)
 |_=>none
theorem AS (b:Bool):ag Tryz.prog (mk [abA] [] fun i=>if i=40 then some b else none):=ai _ aF.nil _ _
noncomputable def xK:Entry Tryz.prog:=.val 66 _ Tryz.func66 (by decide) rfl false 0 qm fun vs v new e=>by
 unfold qm at e
 split at e
 ·rename_i a
  cases e
  unfold eR
  rw [aq]
  cases hn:decide (fk (t4 (aO 5 (iS a)))>0) with
  |true=>exact aP (AS true) 200 Tryz.func66 (p:=aa true (decide (fk (t4 (aO 5 (iS a)))>0))) (by kernel_rfl) (by rw [hn];rfl) rfl
  |false=>exact aP (AS false) 200 Tryz.func66 (p:=aa true (!decide (fk (t4 (aO 5 (iS a)))>0))) (by kernel_rfl) (by rw [hn];rfl) rfl
 ·cases e
end Go.Proofs.YtibfpjeeanppjaaGreat.Fe
namespace Go.Proofs.YtibfpjeeanppjaaGreat.Fe
open Go Go.Sy
noncomputable def LM:List SV→Option (SV×List Blk×Bool)
 | [.agg [.ints .u8 32 e]]=>some (.fn (.func 130) [] [.ptr 0 0 0],[.b [.ints .u8 32 e]],true)
 |_=>none
noncomputable def SD:Entry Tryz.prog:=.val 98 _ Tryz.func98 (by decide) rfl false 1 LM fun vs v new e=>by
 unfold LM at e
 split at e
 ·cases e
  exact dF lV 30 Tryz.func98 1 (by simp) (p:=true) (by kernel_rfl) rfl rfl rfl
 ·cases e
def sG (e:List Int) (i:Int):Int:=IntKind.i64.wrap (bR .u8 (bh .u8 (e.getD (0+(IntKind.i64.wrap (i.tdiv 8)).toNat) 0) (i.tmod 8).toNat) 1)
def JT (i:Int):Bool:=aa (aa (aa (aa true (decide (i≥0))) (cK (IntKind.i64.wrap (i.tdiv 8)) 32)) (decide (0+(IntKind.i64.wrap (i.tdiv 8)).toNat<32))) (decide (0≤i.tmod 8))
theorem zT {i:Int} (h0:0≤i) (h1:i<256):JT i=true:=by
 have e:i.tdiv 8=i/8:=Int.tdiv_eq_ediv_of_nonneg h0
 have e2:i.tmod 8=i%8:=Int.tmod_eq_emod_of_nonneg h0
 have w:IntKind.i64.wrap (i.tdiv 8)=i/8:=by rw [e];exact wrap_i64 _ (by omega) (by omega)
 unfold JT cK
 rw [w,e2]
 simp only [au,Bool.and_eq_true,decide_eq_true_eq,true_and]
 omega
noncomputable def mw:Code:=inner (inner (ak 1 (aH Tryz.f130)))
noncomputable def sn (a e:List Int):Nat→List Int
 |0=>cz 1
 |j+1=>bif (sG e (255-j) != 0) then gq (aO 5 (gq (aO 5 (sn a e j)) (aO 5 (sn a e j)))) (aO 5 a) else gq (aO 5 (sn a e j)) (aO 5 (sn a e j))
noncomputable def pwC:Code:=ak 3 (aH Tryz.f135)
def pwT:List (Option SV):=slotsOf 19 [(2,.ptr 1 0 0),(4,.ptr 2 0 0),(5,.ptr 3 0 0),(8,.fn (.func 130) [] [.ptr 0 0 0])]
noncomputable def pwB (e a o:List Int):List Blk:=[.b [.ints .u8 32 e],.b [.ints .u64 5 a],.b [.ints .u64 5 z5],.b [.ints .u64 5 o]]
noncomputable def Hl (e a o:List Int) (l:Nat):List Blk:=[.b [.ints .u8 32 e],.b [.ints .u64 5 a],.b [.ints .u64 5 z5],.b [.ints .u64 5 o],.g (some (Dl pwC pwT l))]
noncomputable def Ho (e a o:List Int) (l:Nat) (i:Int):St:=⟨slotsOf 20 [(0,.fn (.yield l) [] []),(1,.ptr 0 0 0),(3,.int .i64 i)],Hl e a o l,true⟩
theorem LN (x y:Bool):ag Tryz.prog (mk [qI,fe] [] fun i=>if i=5 then some x else if i=14 then some y else none):=ai _ aF.nil _ _
theorem CI:ag Tryz.prog (mk [qI,fe] []):=ai _ aF.nil _ _
section
variable (e a o:List Int) (l:Nat) (i:Int)
theorem Wq:(exec Tryz.prog (mk [qI,fe] [] fun i=>if i=5 then some true else if i=14 then some true else none) 60 5 mw (Ho e a o l i)).bind (fun r=>(r.2.cut [0,1,3] 5).map fun q=>(r.1,q))=
  some (.normal,⟨(Ho e a o l (IntKind.i64.wrap (i-1))).t,Hl e a (gq (aO 5 (gq (aO 5 o) (aO 5 o))) (aO 5 a)) l,aa (JT i) (aa (aa (aa (decide (l=l)) (decide (l=l))) (sG e i != 0)) (decide (l=l)))⟩):=by kernel_rfl
theorem Qa:(exec Tryz.prog (mk [qI,fe] [] fun i=>if i=5 then some true else if i=14 then some false else none) 60 5 mw (Ho e a o l i)).bind (fun r=>(r.2.cut [0,1,3] 5).map fun q=>(r.1,q))=
  some (.normal,⟨(Ho e a o l (IntKind.i64.wrap (i-1))).t,Hl e a (gq (aO 5 o) (aO 5 o)) l,aa (JT i) (aa (aa (aa (decide (l=l)) (decide (l=l))) (!(sG e i != 0))) (decide (l=l)))⟩):=by kernel_rfl
theorem Wr:(exec Tryz.prog (mk [qI,fe] [] fun i=>if i=5 then some false else if i=14 then some false else none) 60 5 mw (Ho e a o l i)).bind (fun r=>(r.2.cut [0,1,3] 5).map fun q=>(r.1,q))=
  some (.exit 0,⟨(Ho e a o l i).t,Hl e a o l,aa true (!decide (i≥0))⟩):=by kernel_rfl
theorem LO:(az Tryz.prog (mk [qI,fe] []) 60 5 1 (atoms (aH Tryz.f130)) ⟨aT Tryz.f130.ntmps [.fn (.yield l) [] [],.ptr 0 0 0],Hl e a o l,true⟩).bind (St.cut [0,1,3] 5)=some (Ho e a o l 255):=by kernel_rfl
theorem Qb:(az Tryz.prog (mk [qI,fe] []) 60 1 3 (atoms (aH Tryz.f135)) ⟨aT Tryz.f135.ntmps [.agg [.ints .u64 5 a],.fn (.func 130) [] [.ptr 0 0 0]],[.b [.ints .u8 32 e]],true⟩).bind (St.cut [2,4,5,8] 4)=some ⟨pwT,pwB e a (cz 1),true⟩:=by kernel_rfl
end
theorem Qc (e a:List Int) (l:Nat):aj Tryz.prog 130 [.fn (.yield l) [] [],.ptr 0 0 0] (Hl e a (cz 1) l) (.bk []) (Hl e a (sn a e 256) l):=by
 have bS:Tr Tryz.prog none 5 (ak 1 (aH Tryz.f130)) (Ho e a (cz 1) l 255) .normal (Ho e a (sn a e 256) l (-1)):=by
  have key:=Tr.loop (P:=Tryz.prog) (ro:=none) (k:=5) 0 (c:=ak 1 (aH Tryz.f130)) (by kernel_rfl) (fun j:Nat=>Ho e a (sn a e j) l (255-j)) 256 (s':=Ho e a (sn a e 256) l (-1)) (fun j hj=>?_) ?_
  ·exact key
  ·have e1:(255:Int)-j-1=255-((j+1:Nat):Int):=by omega
   have hw:IntKind.i64.wrap (255-(j:Int)-1)=255-((j+1:Nat):Int):=by rw [wrap_i64 _ (by omega) (by omega),e1]
   have ho:=zT (i:=255-(j:Int)) (by omega) (by omega)
   cases hb:(sG e (255-(j:Int)) != 0) with
   |true=>
    have k:=Wq e a (sn a e j) l (255-j)
    rw [hw] at k
    refine Tr.post (Tr.cut (LN true true) 60 _ 5 (by omega) k (by simp [aa,ho,hb])) (aU.same rfl ?_)
    show Hl _ _ _ _=Hl _ _ _ _
    rw [sn,hb];rfl
   |false=>
    have k:=Qa e a (sn a e j) l (255-j)
    rw [hw] at k
    refine Tr.post (Tr.cut (LN true false) 60 _ 5 (by omega) k (by simp [aa,ho,hb])) (aU.same rfl ?_)
    show Hl _ _ _ _=Hl _ _ _ _
    rw [sn,hb];rfl
  ·have k:=Wr e a (sn a e 256) l (-1)
   exact Tr.post (Tr.cut (LN false false) 60 _ 5 (by omega) k rfl) (aU.same rfl rfl)
 refine aj.mk (vs:=[]) Tryz.func130 rfl (x:=.normal) (s:=Ho e a (sn a e 256) l (-1)) ?_ (.inr rfl) (by kernel_rfl)
 refine aG.items CI 60 1 _ 5 (by simp [Hl]) (LO e a (cz 1) l) rfl (by decide) ?_
 exact aG.item 1 (by decide) bS ⟨rfl,rfl⟩
noncomputable def ve (a e:List Int):List Int:=gz (sn a e 256)
theorem abB (e a:List Int):aj Tryz.prog 135 [.agg [.ints .u64 5 a],.fn (.func 130) [] [.ptr 0 0 0]] [.b [.ints .u8 32 e]] (.agg [.ints .u64 5 (ve a e)]) [.b [.ints .u8 32 e]]:=by
 rw [ve,aq]
 refine aj.cg CI 60 4 1 Tryz.func135 (by simp) rfl (fun s' x h=>?_) (s:=⟨pwT,pwB e a (sn a e 256)++[.gap],true⟩) (p:=true) (by kernel_rfl) rfl rfl rfl
 refine aG.items CI 60 3 _ 4 (by simp) (Qb e a) rfl (by decide) ?_
 refine aG.item 3 (by decide) ?_ h
 exact Tr.xk 0 (by kernel_rfl) (f:=130) (first:=[]) (jX:=[.ptr 0 0 0]) true Tryz.func130 (by decide) rfl (by kernel_rfl) (fun l=>Qc e a l)
  (fun l=>⟨_,rfl,rfl,by simp [Dl],rfl⟩) (fun l=>rfl)
end Go.Proofs.YtibfpjeeanppjaaGreat.Fe
namespace Go.Proofs.YtibfpjeeanppjaaGreat.Fe
open Go Go.Sy
def abC (vs:List SV):List Nat:=match vs with
 | [_,.fn _ _ [.ptr b _ _]]=>[b]
 |_=>[]
noncomputable def AT:List SV→List Blk→Option (SV×Bool)
 | [.agg [.ints .u64 5 a],.fn (.func 130) [] [.ptr 0 0 0]],[.b [.ints .u8 32 e]]=>some (.agg [.ints .u64 5 (ve a e)],true)
 |_,_=>none
noncomputable def Ws:Entry Tryz.prog:=.rdm 135 _ Tryz.func135 (by decide) rfl abC AT fun vs h0 v e=>by
 unfold AT at e
 split at e
 ·cases e;exact abB _ _
 ·cases e
def e2:List Int:=235::(List.replicate 30 255++[127])
def e1:List Int:=251::(List.replicate 30 255++[31])
def e5:List Int:=253::(List.replicate 30 255++[15])
noncomputable def ED:List (FuncId×Func):=[(65,Tryz.f65),(103,Tryz.f103),(104,Tryz.f104),(66,Tryz.f66)]
theorem CJ:aF Tryz.prog ED:=
 aF.cons Tryz.func65 (by decide) (aF.cons Tryz.func103 (by decide) (aF.cons Tryz.func104 (by decide) (aF.cons Tryz.func66 (by decide) aF.nil)))
theorem yq:ag Tryz.prog (mk (P:=Tryz.prog) [] ED):=ai _ CJ _ _
noncomputable def LP:List SV→Option (SV×List Blk×Bool)
 | [.int .i64 n,.int .i64 m]=>bif n==2&&m==0 then some (.agg [.ints .u8 32 e2],[],true) else bif n==1&&m==2 then some (.agg [.ints .u8 32 e1],[],true) else bif n==5&&m==3 then some (.agg [.ints .u8 32 e5],[],true) else none
 |_=>none
theorem abD:aj Tryz.prog 136 [.int .i64 2,.int .i64 0] [] (.agg [.ints .u8 32 e2]) []:=aP yq 300 Tryz.func136 (p:=true) (by kernel_rfl) rfl rfl
theorem abE:aj Tryz.prog 136 [.int .i64 1,.int .i64 2] [] (.agg [.ints .u8 32 e1]) []:=aP yq 300 Tryz.func136 (p:=true) (by kernel_rfl) rfl rfl
theorem abF:aj Tryz.prog 136 [.int .i64 5,.int .i64 3] [] (.agg [.ints .u8 32 e5]) []:=aP yq 300 Tryz.func136 (p:=true) (by kernel_rfl) rfl rfl
noncomputable def abG:Entry Tryz.prog:=.val 136 _ Tryz.func136 (by decide) rfl false 0 LP fun vs v new e=>by
 unfold LP at e
 split at e
 ·rename_i n m
  by_cases h1:(n==2&&m==0)=true
  ·rw [h1] at e
   simp only [Bool.and_eq_true,beq_iff_eq] at h1
   obtain ⟨rfl,rfl⟩:=h1
   cases e;exact abD
  ·rw [Bool.not_eq_true] at h1
   rw [h1] at e
   by_cases h2:(n==1&&m==2)=true
   ·rw [h2] at e
    simp only [Bool.and_eq_true,beq_iff_eq] at h2
    obtain ⟨rfl,rfl⟩:=h2
    cases e;exact abE
   ·rw [Bool.not_eq_true] at h2
    rw [h2] at e
    by_cases h3:(n==5&&m==3)=true
    ·rw [h3] at e
     simp only [Bool.and_eq_true,beq_iff_eq] at h3
     obtain ⟨rfl,rfl⟩:=h3
     cases e;exact abF
    ·rw [Bool.not_eq_true] at h3
     rw [h3] at e
     cases e
 ·cases e
end Go.Proofs.YtibfpjeeanppjaaGreat.Fe
