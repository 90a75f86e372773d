/- This file holds the texts BnA, BnP, a section each. No conditions beyond those in the theorems. -/
import Derived.Test.YtibfpjeeanppjaaGreatYShG
import Derived.Test.YtibfpjeeanppjaaGreatYKdB
set_option linter.all false
section
namespace Go.Sy
open Go
section
variable {P:Program} {e:Env} {B:dL} {h:List Blk} {w:World}
theorem Rel.empty (R:Rel B e h w):Rel B e (h.map fun _=>.b []) w:={
  os:=R.os,tape:=R.tape,output:=R.output,size:=R.size,inj:=R.inj,dom:=fun i p hi=>by simpa using R.dom i p hi,sep:=R.sep,g6:=R.g6,bz:=R.bz,news:=R.news,bF:=R.bF,bZ:=R.bZ,n0:=R.n0,cW:=R.cW
  gj:=fun i qs hi=>by
   rw [List.getElem?_map] at hi
   cases hg:h[i]? with
   |none=>rw [hg] at hi;cases hi
   |some x=>
    rw [hg] at hi
    simp only [Option.map_some,Option.some.injEq,Blk.b.injEq] at hi
    subst hi
    cases x with
    |b ps=>
     rcases R.gj i ps hg with ⟨g1,g2⟩|⟨p,o,g1,g2,c,t,rfl,g3,g4,g5⟩
     ·exact .inl ⟨rfl,g2⟩
     ·exact .inr ⟨p,_,g1,g2,c,t,rfl,g3,Nat.zero_le _,rfl⟩
    |g o=>exact .inl ⟨rfl,(R.gap i o hg).1⟩
  gap:=fun i g hi=>by
   rw [List.getElem?_map] at hi
   cases hg:h[i]? with
   |none=>rw [hg] at hi;cases hi
   |some x=>rw [hg] at hi;cases hi
  yi:=R.yi,yb:=R.yb,old:=R.old,win:=R.win,kr:=R.kr,iO:=by simpa using R.iO,iZ:=R.iZ,kf:=R.kf}
end
end Go.Sy
namespace Go.Proofs.YtibfpjeeanppjaaGreat.Bn
open Go Go.Sy Sh
abbrev J (n:Int):Int:=IntKind.i64.wrap n
theorem dy {n:Int} (h0:0≤n) (h1:n<1000000000000000):J n=n:=wrap_i64 n (by omega) (by omega)
noncomputable def apB:Code:=aE Tryz.f17
noncomputable def eu:Code:=inner (inner (aA 5 apB))
def f0:Nat→Option Bool:=fun _=>none
def g0:Nat→Bool:=fun _=>false
def Bj (ob:Bool) (j:Int) (n m:Nat):Bool:=aa (aa ob (cL j n)) (decide (0+j.toNat<m))
theorem iz {ob:Bool} {j n m:Nat} (h:ob=true) (h1:j<n) (h2:n≤m):Bj ob (j:Int) n m=true:=by
 unfold Bj
 rw [h,aK (by omega) (by omega),decide_eq_true (show 0+((j:Int)).toNat<m by omega)];rfl
def wO (j:Int) (n m:Nat) (l:List Int):Bool:=aa (aa (aa true (decide (j<n))) (cL j n)) (decide (0+j.toNat<m)&&decide (l.length=m))
theorem FI {j n:Nat} {m:Nat} {l:List Int} (h:j<n) (hm:j<m) (hl:l.length=m):wO (j:Int) n m l=true:=by
 unfold wO
 rw [decide_eq_true (show (j:Int)<n by omega),aK (by omega) (by omega),decide_eq_true (show 0+((j:Int)).toNat<m by omega),decide_eq_true hl];rfl
def gO (m:Nat) (n:Int) (c:Nat) (l:List Int):Bool:=aa (aa true (decide ((m:Int)<J (n+10)))) (aa (aa true (decide (m+1≤c))) (decide (l.length=m)&&decide (m=m)&&true))
def gM (m:Nat) (n:Int) (c:Nat) (l:List Int):Bool:=aa (aa true (decide ((m:Int)<J (n+10)))) (aa (aa (aa (aa true (decide (l.length=m)&&(decide (m≤m)&&true))) (decide (l.length=m))) (decide (m+1≤274877906944))) (decide (c<m+1)))
end Go.Proofs.YtibfpjeeanppjaaGreat.Bn
end
section
namespace Go.Proofs.YtibfpjeeanppjaaGreat.Bn
open Go Go.Sy Sh
def UN (h:List Blk) (b:Nat):List Nat:=match h[b]? with
 |some (.b ps)=>ps.filterMap fun p=>match p with
  | .sl c _ _ _ _ _ _ _=>some c
  |_=>none
 |_=>[]
def Uu (vs:List SV) (h:List Blk):List Nat:=match vs with
 | [.sl b _ _ _ _ _ _ _]=>b::UN h b
 |_=>[]
end Go.Proofs.YtibfpjeeanppjaaGreat.Bn
end
