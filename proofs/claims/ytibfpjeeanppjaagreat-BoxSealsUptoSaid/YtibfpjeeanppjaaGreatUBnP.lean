/- This file holds the texts BnA, BnP, a section each. No conditions beyond those in the theorems. -/
import Derived.Test.YtibfpjeeanppjaaGreatUShG
import Derived.Test.YtibfpjeeanppjaaGreatUKdB
set_option linter.all false
section
namespace Go.Sy
open Go
section
variable {P:Program} {e:Env} {B:dA} {h:List Blk} {w:World}
theorem Rel.set' (R:Rel B e h w) {b:Nat} {ps ps':List SV} (hb:h[b]? =some (.b ps)) (q:∀p o,e.r b=some p→w.heap[p.n]? =some o→BR e p ps o→BR e p ps' o) (h0:aA ps=0→aA ps'=0):Rel B e (h.set b (.b ps')) w:=by
 have hlt:=(List.getElem?_eq_some_iff.1 hb).1
 exact {
  os:=R.os,tape:=R.tape,output:=R.output,size:=R.size,inj:=R.inj,dom:=fun i p hi=>by simpa using R.dom i p hi,sep:=R.sep,gk:=R.gk,aY:=R.aY,news:=R.news,bg:=R.bg,bM:=R.bM,n0:=R.n0,cP:=R.cP
  fA:=fun i qs hi=>by
   by_cases jo:b=i
   ·subst jo
    rw [List.getElem?_set_self hlt] at hi;cases hi
    rcases R.fA b ps hb with ⟨g1,g2⟩|⟨p,o,g1,g2,g3⟩
    ·exact .inl ⟨h0 g1,g2⟩
    ·exact .inr ⟨p,o,g1,g2,q p o g1 g2 g3⟩
   ·rw [List.getElem?_set_ne jo] at hi;exact R.fA i qs hi
  gap:=fun i g hi=>by
   by_cases jo:b=i
   ·subst jo;rw [List.getElem?_set_self hlt] at hi;cases hi
   ·rw [List.getElem?_set_ne jo] at hi;exact R.gap i g hi
  yi:=R.yi,yb:=R.yb,old:=R.old,win:=R.win,kr:=R.kr,gL:=by simpa using R.gL,hY:=R.hY,jq:=R.jq}
theorem Rel.empty (R:Rel B e h w):Rel B e (h.map fun _=>.b []) w:={
  os:=R.os,tape:=R.tape,output:=R.output,size:=R.size,inj:=R.inj,dom:=fun i p hi=>by simpa using R.dom i p hi,sep:=R.sep,gk:=R.gk,aY:=R.aY,news:=R.news,bg:=R.bg,bM:=R.bM,n0:=R.n0,cP:=R.cP
  fA:=fun i qs hi=>by
   rw [List.getElem?_map] at hi
   cases hg:h[i]? with
   |none=>rw [hg] at hi;cases hi
   |some x=>
    rw [hg] at hi
    simp only [Option.map_some,Option.some.injEq,Blk.b.injEq] at hi
    subst hi
    cases x with
    |b ps=>
     rcases R.fA i ps hg with ⟨g1,g2⟩|⟨p,o,g1,g2,c,t,rfl,g3,g4,g5⟩
     ·exact .inl ⟨rfl,g2⟩
     ·exact .inr ⟨p,_,g1,g2,c,t,rfl,g3,Nat.zero_le _,rfl⟩
    |g o=>exact .inl ⟨rfl,(R.gap i o hg).1⟩
  gap:=fun i g hi=>by
   rw [List.getElem?_map] at hi
   cases hg:h[i]? with
   |none=>rw [hg] at hi;cases hi
   |some x=>rw [hg] at hi;cases hi
  yi:=R.yi,yb:=R.yb,old:=R.old,win:=R.win,kr:=R.kr,gL:=by simpa using R.gL,hY:=R.hY,jq:=R.jq}
theorem aj.Y5 {ι:Type} {f:FuncId} {args:List SV} {h h':List Blk} {v:SV} (h2:ι→List Blk) (ok:ι→Prop) (hl:∀i,(h2 i).length=h.length) (g:∀(B:dA) (e:Env) (w:World),Rel B e h w→∃i,ok i∧Rel B e (h2 i) w)
  (k:∀i,ok i→aj P f args (h2 i) v h'):aj P f args h v h':=fun B e w args' hB hl' R=>by
 obtain ⟨i,hi,R2⟩:=g B e w R
 exact k i hi B e w args' (by rw [hl i];exact hB) hl' R2
theorem aj.IM {f:FuncId} {args:List SV} {h h':List Blk} {v:SV} (g:aj P f args h v h'):aj P f args h v (h'.map fun _=>.b []):=fun B e w args' hB hl R=>
 (g B e w args' hB hl R).mono fun _ _ ⟨v',h1,e',h2,h3,h4⟩=>⟨v',h1,e',h2,h3,h4.empty⟩
theorem VR.aeA {b o i z len cap:Nat} {wh:Bool} {v':Value} (g:VR e (.sl b o i z len cap false wh) v'):∃c,len≤c∧VR e (.sl b o i z len c true true) v':=by
 rcases g with ⟨rfl,_,a,rfl⟩|⟨p,c,a,h1,h2,h3,_,_,h4,h5⟩
 ·exact ⟨0,Nat.le_refl _,.inl ⟨rfl,rfl,a,rfl⟩⟩
 ·exact ⟨c,h4,.inr ⟨p,c,a,h1,h2,h3,Nat.le_refl _,fun _=>rfl,h4,h5⟩⟩
theorem Rel.aez (R:Rel B e h w) {b:Nat} {pre post:List SV} {b' o i z len cap:Nat} {wh:Bool} (hb:h[b]? =some (.b (pre++ .sl b' o i z len cap false wh::post))):∃c,len≤c∧Rel B e (h.set b (.b (pre++ .sl b' o i z len c true true::post))) w:=by
 have hs:∀c ex wh,aA (pre++ .sl b' o i z len c ex wh::post)=aA pre+(1+aA post):=fun c ex wh=>by rw [iG];rfl
 rcases R.fA b _ hb with ⟨g1,_⟩|⟨p,o',g1,g2,c,t,rfl,g3,g4,g5⟩
 ·rw [hs] at g1;omega
 ·obtain ⟨y1,y2,hy,q1,q2⟩:=g5.split
  obtain ⟨v,zs,q3,q4,rfl⟩:=q2
  obtain ⟨k,hk,q5⟩:=VR.aeA q3
  refine ⟨k,hk,R.set' hb (fun p2 o2 r1 r2 _=>?_) (fun q=>by rw [hs] at q;omega)⟩
  rw [g1] at r1;cases r1
  rw [g2] at r2;cases r2
  refine ⟨c,t,rfl,g3,by rw [hs] at g4 ⊢;exact g4,?_⟩
  rw [hs] at hy ⊢
  rw [hy]
  exact q1.append ⟨v,zs,q5,q4,rfl⟩
theorem Rel.shrink (R:Rel B e h w) {b N n:Nat} {k:IntKind} {l:List Int} (hb:h[b]? =some (.b [.ints k N l])) (hn:n≤N):Rel B e (h.set b (.b [.ints k n (l.take n)])) w:=by
 refine R.set' hb (fun p o _ _ q=>?_) (fun q=>by simp only [aA,sE] at q ⊢;omega)
 obtain ⟨c,t,rfl,g3,g4,g5⟩:=q
 refine ⟨c,t,rfl,g3,by simp only [aA,sE] at g4 ⊢;omega,?_⟩
 obtain ⟨zs,z1,z2⟩:=g5
 rw [PR] at z1;subst z1
 refine ⟨[],rfl,?_⟩
 simp only [aA,sE,Nat.add_zero,List.append_nil] at z2 ⊢
 have:=congrArg (List.take n) z2
 rw [List.take_take,Nat.min_eq_left hn] at this
 rw [this,jc hn,cq]
end
end Go.Sy
namespace Go.Proofs.YtibfpjeeanppjaaGreat.Bn
open Go Go.Sy Sh
abbrev J (n:Int):Int:=IntKind.i64.wrap n
theorem bu {n:Int} (h0:0≤n) (h1:n<1000000000000000):J n=n:=wrap_i64 n (by omega) (by omega)
def pt (k j:Int):Int:=IntKind.u8.wrap (J (J (J (29*k)+J (5*j))+3))
def pat (k:Int) (n:Nat):List Int:=(List.range n).map fun i:Nat=>pt k (i:Int)
theorem aN (k:Int) (n:Nat):(pat k n).length=n:=by simp [pat]
theorem bJ (k:Int) (n:Nat):pat k (n+1)=pat k n++[pt k (n:Int)]:=by unfold pat;rw [List.range_succ,List.map_append];rfl
theorem cm (k:Int) {n j:Nat} (h:j<n):(pat k n).getD j 0=pt k (j:Int):=by
 unfold pat
 rw [List.getD_eq_getElem?_getD,List.getElem?_map,List.getElem?_range h];rfl
theorem jx {k:Int} {l:List Int} {j:Nat} (h:j<l.length):(pat k j++l.drop j).set (0+j) (pt k (j:Int))=pat k (j+1)++l.drop (j+1):=by
 rw [Nat.zero_add,List.set_append_right _ _ (by rw [aN];exact Nat.le_refl _),aN,Nat.sub_self,bJ,List.append_assoc,List.drop_eq_getElem_cons h]
 rfl
theorem jy (k:Int) (l:List Int):pat k l.length++l.drop l.length=pat k l.length:=by rw [List.drop_of_length_le (Nat.le_refl _),List.append_nil]
theorem dK {k:Int} {l:List Int} {j:Nat} (h:j≤l.length):(pat k j++l.drop j).length=l.length:=by rw [List.length_append,aN,List.length_drop];omega
theorem ck (x:Int):(x != x)=false:=by simp
noncomputable def bf (f:Nat→Option Bool) (g:Nat→Bool):bK:=mk (P:=Tryz.prog) [] [] f g
theorem ah (f:Nat→Option Bool) (g:Nat→Bool):ag Tryz.prog (bf f g):=ai _ aF.nil _ _
noncomputable def G6:Code:=aH Tryz.f17
noncomputable def oC:Code:=inner (inner (ak 2 G6))
noncomputable def rP:Code:=inner (ak 2 oC)
noncomputable def nV:Code:=inner (inner (ak 2 rP))
noncomputable def fK:Code:=inner (inner (ak 5 G6))
noncomputable def jb:Code:=inner (ak 2 fK)
noncomputable def ig:Code:=inner (inner (ak 2 jb))
noncomputable def nW:Code:=inner (inner (ak 7 G6))
noncomputable def pH:Code:=inner (ak 2 nW)
noncomputable def jv:Code:=inner (inner (ak 2 pH))
def f0:Nat→Option Bool:=fun _=>none
def g0:Nat→Bool:=fun _=>false
def RY:Nat→Bool:=fun i=>i==62
def wY (b:Bool):Nat→Option Bool:=fun i=>if i=23 then some b else none
def gY (b:Bool):Nat→Option Bool:=fun i=>if i=51 then some b else none
def cA:Nat→Option Bool:=fun i=>if i=78||i=99 then some true else if i=91||i=112 then some false else none
def cZ:Nat→Option Bool:=fun i=>if i=78 then some true else if i=91||i=99 then some false else none
def cE:Nat→Option Bool:=fun i=>if i=78 then some false else none
def vM (ob:Bool) (j:Int) (n m:Nat):Bool:=aa (aa ob (cK j n)) (decide (0+j.toNat<m))
def sV (ob:Bool) (j:Int) (n:Nat):Bool:=aa (aa ob (cK j n)) (decide (j.toNat<n))
theorem cN {ob:Bool} {j n m:Nat} (h:ob=true) (h1:j<n) (h2:n≤m):vM ob (j:Int) n m=true:=by
 unfold vM
 rw [h,aK (by omega) (by omega),decide_eq_true (show 0+((j:Int)).toNat<m by omega)];rfl
theorem bU {ob:Bool} {j n:Nat} (h:ob=true) (h1:j<n):sV ob (j:Int) n=true:=by
 unfold sV
 rw [h,aK (by omega) (by omega),decide_eq_true (show ((j:Int)).toNat<n by omega)];rfl
def wO (j:Int) (n m:Nat) (l:List Int):Bool:=aa (aa (aa true (decide (j<n))) (cK j n)) (decide (0+j.toNat<m)&&decide (l.length=m))
theorem jw {j n:Nat} {m:Nat} {l:List Int} (h:j<n) (hm:j<m) (hl:l.length=m):wO (j:Int) n m l=true:=by
 unfold wO
 rw [decide_eq_true (show (j:Int)<n by omega),aK (by omega) (by omega),decide_eq_true (show 0+((j:Int)).toNat<m by omega),decide_eq_true hl];rfl
def gO (m:Nat) (n:Int) (c:Nat) (l:List Int):Bool:=aa (aa true (decide ((m:Int)<J (n+10)))) (aa (aa true (decide (m+1≤c))) (decide (l.length=m)&&decide (m=m)&&true))
theorem jz {m n c:Nat} {l:List Int} (h1:m<n+10) (h2:n<270000000000) (h3:m+1≤c) (hl:l.length=m):gO m (n:Int) c l=true:=by
 unfold gO
 rw [bu (by omega) (by omega),decide_eq_true (show (m:Int)<(n:Int)+10 by omega),decide_eq_true h3,decide_eq_true hl,decide_eq_true rfl];rfl
def gM (m:Nat) (n:Int) (c:Nat) (l:List Int):Bool:=aa (aa true (decide ((m:Int)<J (n+10)))) (aa (aa (aa (aa true (decide (l.length=m)&&(decide (m≤m)&&true))) (decide (l.length=m))) (decide (m+1≤274877906944))) (decide (c<m+1)))
theorem kO {m n c:Nat} {l:List Int} (h1:m<n+10) (h2:n<270000000000) (h3:c<m+1) (hl:l.length=m):gM m (n:Int) c l=true:=by
 unfold gM
 rw [bu (by omega) (by omega),decide_eq_true (show (m:Int)<(n:Int)+10 by omega),decide_eq_true h3,decide_eq_true hl,decide_eq_true (Nat.le_refl m),decide_eq_true (show m+1≤274877906944 by omega)];rfl
def gP (y:List Int) (m:Nat) (n:Int):Bool:=aa (aa true (decide ((m:Int)<J (n+10)))) (tK y.length m)
theorem jA {y:List Int} {m n:Nat} (h1:m<n+10) (h2:n<270000000000) (hl:y.length=m):gP y m (n:Int)=true:=by
 unfold gP
 rw [bu (by omega) (by omega),decide_eq_true (show (m:Int)<(n:Int)+10 by omega),hl,cr (by omega)];rfl
theorem IK {y:List Int} {m:Nat} (h1:m<10) (_:m<270000000000) (hl:y.length=m):gP y m 0=true:=jA (n:=0) h1 (by decide) hl
theorem RZ:ak 2 oC= .block 1 rP:=by kernel_rfl
theorem N8:ak 2 fK= .block 5 jb:=by kernel_rfl
theorem N9:ak 2 nW= .block 9 pH:=by kernel_rfl
end Go.Proofs.YtibfpjeeanppjaaGreat.Bn
end
section
namespace Go.Proofs.YtibfpjeeanppjaaGreat.Bn
open Go Go.Sy Sh
def Y6 (h:List Blk) (b:Nat):List Nat:=match h[b]? with
 |some (.b ps)=>ps.filterMap fun p=>match p with
  | .sl c _ _ _ _ _ _ _=>some c
  |_=>none
 |_=>[]
def Hu (vs:List SV) (h:List Blk):List Nat:=match vs with
 | [.sl b _ _ _ _ _ _ _]=>b::Y6 h b
 |_=>[]
end Go.Proofs.YtibfpjeeanppjaaGreat.Bn
end
