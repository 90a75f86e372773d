/- This file holds the texts ShC, ShD, a section each. No conditions beyond those in the theorems. -/
import Derived.Test.YtibfpjeeanppjaaGreatYShB
set_option linter.all false
set_option maxRecDepth 100000
section
namespace Go.Sy
open Go
variable {P:Program}
theorem ai.empty {f:FuncId} {args:List SV} {h h1:List Blk} (g:ai P f args h (.nl (.slice none 0 0)) h1) (K:IntKind) (ex wh:Bool):ai P f args h (.sl h1.length 0 0 1 0 0 ex wh) (h1++[.b [.ints K 0 []]]):=
 g.post fun B e w t' _ hl R=>⟨e,rfl,⟨hl.1,fun i v v' a c=>by
  cases i with
  |zero=>
   simp only [List.getElem?_cons_zero,Option.some.injEq] at a
   subst a
   have h1:v'= .slice none 0 0:=hl.2 0 _ v' rfl c
   exact .inl ⟨rfl,rfl,none,h1⟩
  |succ i=>simp at a⟩,by
  have:=R.nothing (j:=h1.length) (ps:=[.ints K 0 []]) (.inl rfl) rfl
  unfold b6 at this
  rw [if_pos rfl] at this
  exact this⟩
theorem ai.frozen {f:FuncId} {args:List SV} {K:IntKind} {l:List Int} {N:Nat} {ex wh:Bool} (g:ai P f args [] (.sl 0 0 0 1 N N ex wh) [.b [.ints K N l]]) (hl:l.length=N):ai P f args [] (.ro true K l) []:=by
 subst hl
 cases wh
 ·have k:=g.fz (u:=.ro true K ((l.drop 0).take l.length)) (h2:=[]) (p:=aa (decide (l.length=l.length)) (([some (SV.sl 0 0 0 1 l.length l.length ex false)]:List (Option SV)).all fun o=>match o with|some v=>HX 0 l.length v|none=>true)) 0 0 (Nat.le_refl _) (Nat.le_refl _) rfl (by simp [HX,aa])
  rw [List.drop_zero,List.take_length] at k
  exact k
 ·exact g.fz (u:=.ro true K l) (h2:=[]) (p:=aa (decide (l.length=l.length)) (([some (SV.sl 0 0 0 1 l.length l.length ex true)]:List (Option SV)).all fun o=>match o with|some v=>HX 0 l.length v|none=>true)) 0 0 (Nat.le_refl _) (Nat.le_refl _) rfl (by simp [HX,aa])
end Go.Sy
namespace Go.Proofs.YtibfpjeeanppjaaGreat.Sh
open Go Go.Sy
noncomputable def gC (b:Bool):=mk (P:=Tryz.prog) [] [] fun i=>if i=6 then some false else if i=16 then some b else none
theorem Wg (b:Bool):ag Tryz.prog (gC b):=ah _ au.nil _ _
def gI (n:Int):Int:=IntKind.i64.wrap (n-IntKind.i64.wrap (0-((0:Nat):Int)))
def Wh:List SV→Option (SV×List Blk×Bool)
 | [.nl (.slice none 0 0),.int .i64 n]=>some (.sl 0 0 0 1 0 n.toNat false false,[.b [.ints .u8 n.toNat (List.replicate n.toNat 0)]],decide (0≤n)&&decide (n≤274877906944))
 |_=>none
theorem Pz (n:Int):(br Tryz.prog (gC true) 60 Tryz.f74 [.nl (.slice none 0 0),.int .i64 n] []).map (fun x=>x)=
  some (.sl 0 0 0 1 0 (gI n).toNat false false,[.b [.ints .u8 (gI n).toNat (List.replicate (gI n).toNat 0)]],aa (aa (aa true (!decide (n<0))) (decide (gI n>0))) (decide (0≤gI n)&&decide (gI n≤2^38))):=by kernel_rfl
theorem JE (n:Int):(br Tryz.prog (gC false) 60 Tryz.f74 [.nl (.slice none 0 0),.int .i64 n] []).map (fun x=>(x.1,x.2.2))=
  some (.nl (.slice none 0 0),aa (aa true (!decide (n<0))) (!decide (gI n>0))):=by kernel_rfl
theorem Up {n:Int} (h0:0≤n) (h1:n≤274877906944):ai Tryz.prog 74 [.nl (.slice none 0 0),.int .i64 n] [] (.sl 0 0 0 1 0 n.toNat false false) [.b [.ints .u8 n.toNat (List.replicate n.toNat 0)]]:=by
 have e:gI n=n:=by
  unfold gI
  rw [wrap_i64 (0-((0:Nat):Int)) (by omega) (by omega),wrap_i64 _ (by omega) (by omega)];omega
 by_cases hn:n=0
 ·subst hn
  have k:=JE 0
  rw [e] at k
  exact (aF (Wg false) 60 Tryz.func74 k rfl rfl).empty .u8 false false
 ·have k:=Pz n
  rw [e,decide_eq_false (show ¬n<0 by omega),decide_eq_true (show n>0 by omega),decide_eq_true h0,decide_eq_true (show n≤2^38 by omega)] at k
  obtain ⟨x,h2,h3⟩:=Option.map_eq_some_iff.1 k
  subst h3
  exact ai.dw (Wg true) Tryz.func74 h2
noncomputable def agt:Entry Tryz.prog:=.val 74 _ Tryz.func74 (by decide) rfl false 1 Wh fun vs v new e=>by
 unfold Wh at e
 split at e
 ·simp only [Option.some.injEq,Prod.mk.injEq,Bool.and_eq_true,decide_eq_true_eq] at e
  obtain ⟨rfl,rfl,h1,h2⟩:=e
  exact Up h1 h2
 ·cases e
end Go.Proofs.YtibfpjeeanppjaaGreat.Sh
end
section
namespace Go.Proofs.YtibfpjeeanppjaaGreat.Sh
open Go Go.Sy
noncomputable def cB:Code:=aE Tryz.f41
noncomputable def JO (a c:Bool):bu:=mk (P:=Tryz.prog) [agt] [] (fun i=>if i=12 then some a else if i=20 then some false else if i=28 then some c else none) fun i=>i=33
theorem jB (a c:Bool):ag Tryz.prog (JO a c):=ah _ au.nil _ _
noncomputable def c1 (xss:List (List Int)) (n i:Int):St:=⟨slotsOf 36 [(0,.iN false xss),(2,.nl (.slice none 0 0)),(3,.int .i64 n),(9,.iN false xss),(10,.int .i64 xss.length),(11,.int .i64 i)],[],true⟩
noncomputable def c2 (xss:List (List Int)) (N m:Nat) (l:List Int) (i:Int):St:=⟨slotsOf 36 [(6,.sl 0 0 0 1 m N false false),(25,.iN false xss),(26,.int .i64 xss.length),(27,.int .i64 i)],[.b [.ints .u8 N l]],true⟩
section
variable (xss:List (List Int)) (n i:Int) (N m:Nat) (l:List Int)
theorem zF:(aW Tryz.prog (JO true true) 60 0 3 (atoms cB) ⟨aO Tryz.f41.ntmps [.iN false xss],[],true⟩).bind (St.cut [0,2,3,9,10,11] 0)=some (c1 xss 0 0):=by kernel_rfl
theorem D8:(exec Tryz.prog (JO true true) 60 0 (inner (inner (aA 3 cB))) (c1 xss n i)).bind (fun r=>(r.2.cut [0,2,3,9,10,11] 0).map fun q=>(r.1,q))=
  some (.normal,{c1 xss (IntKind.i64.wrap (n+(xss.getD i.toNat []).length)) (IntKind.i64.wrap (i+1)) with ob:=aa (aa (aa (aa true (decide (i<xss.length))) (cL i xss.length)) (decide (i.toNat<xss.length))) (!decide (IntKind.i64.wrap (n+(xss.getD i.toNat []).length)<0))}):=by kernel_rfl
theorem Uq:(exec Tryz.prog (JO false true) 60 0 (inner (inner (aA 3 cB))) (c1 xss n i)).bind (fun r=>(r.2.cut [0,2,3,9,10,11] 0).map fun q=>(r.1,q))=
  some (.exit 0,{c1 xss n i with ob:=aa true (!decide (i<xss.length))}):=by kernel_rfl
theorem aa1:(aW Tryz.prog (JO true true) 60 0 2 ((atoms cB).drop 4) (c1 xss n i)).bind (St.cut [6,25,26,27] 1)=
  some {c2 xss n.toNat 0 (List.replicate n.toNat 0) 0 with ob:=aa true (aa true (decide (0≤n)&&decide (n≤274877906944)))}:=by kernel_rfl
theorem aa2:(exec Tryz.prog (JO true true) 60 0 (inner (inner (aA 6 cB))) (c2 xss N m l i)).bind (fun r=>(r.2.cut [6,25,26,27] 1).map fun q=>(r.1,q))=
  some (.normal,{c2 xss N (m+(xss.getD i.toNat []).length) (ng l (0+m) (xss.getD i.toNat []) (xss.getD i.toNat []).length) (IntKind.i64.wrap (i+1)) with ob:=aa (aa (aa (aa true (decide (i<xss.length))) (cL i xss.length)) (decide (i.toNat<xss.length))) (aa (aa true (decide (m+(xss.getD i.toNat []).length≤N)))
    (decide (l.length=N)&&decide (0+m+(xss.getD i.toNat []).length≤N)&&decide ((xss.getD i.toNat []).length≤(xss.getD i.toNat []).length)))}):=by kernel_rfl
theorem Ur:(exec Tryz.prog (JO true false) 60 0 (inner (inner (aA 6 cB))) (c2 xss N m l i)).bind (fun r=>(r.2.cut [6,25,26,27] 1).map fun q=>(r.1,q))=
  some (.exit 2,{c2 xss N m l i with ob:=aa true (!decide (i<xss.length))}):=by kernel_rfl
end
def tot (xss:List (List Int)) (i:Nat):Nat:=(xss.take i).flatten.length
theorem yW {xss:List (List Int)} {i:Nat} (h:i<xss.length):(xss.take (i+1)).flatten=(xss.take i).flatten++xss.getD i []:=by
 have e:xss.take (i+1)=xss.take i++[xss[i]]:=by simp
 have g:xss.getD i []=xss[i]:=by simp [List.getD,List.getElem?_eq_getElem h]
 rw [e,g,List.flatten_append,List.flatten_cons,List.flatten_nil,List.append_nil]
theorem xK {xss:List (List Int)} {i:Nat} (h:i<xss.length):tot xss (i+1)=tot xss i+(xss.getD i []).length:=by
 unfold tot;rw [yW h,List.length_append]
theorem Fv (xss:List (List Int)) (i:Nat):tot xss i≤xss.flatten.length:=by
 have:xss.flatten=(xss.take i).flatten++(xss.drop i).flatten:=by rw [←List.flatten_append,List.take_append_drop]
 unfold tot
 rw [this,List.length_append];omega
theorem vl (xss:List (List Int)):tot xss xss.length=xss.flatten.length:=by unfold tot;rw [List.take_length]
def j8 (xss:List (List Int)) (i:Nat):List Int:=(xss.take i).flatten++List.replicate (xss.flatten.length-tot xss i) 0
theorem JF (xss:List (List Int)) (i:Nat):(j8 xss i).length=xss.flatten.length:=by
 have:=Fv xss i
 unfold j8
 rw [List.length_append,List.length_replicate]
 unfold tot at*;omega
theorem Fw {xss:List (List Int)} {i:Nat} (h:i<xss.length):ng (j8 xss i) (0+tot xss i) (xss.getD i []) (xss.getD i []).length=j8 xss (i+1):=by
 unfold ng
 have h1:(j8 xss i).take (0+tot xss i)=(xss.take i).flatten:=by
  unfold j8
  rw [Nat.zero_add]
  exact List.take_left' rfl
 have h2:(j8 xss i).drop (0+tot xss i+(xss.getD i []).length)=List.replicate (xss.flatten.length-tot xss (i+1)) 0:=by
  unfold j8
  rw [List.drop_append,xK h,List.drop_of_length_le (by unfold tot;omega),List.nil_append,List.drop_replicate]
  congr 1
  unfold tot;omega
 rw [h1,h2,List.take_length]
 unfold j8
 rw [yW h]
theorem Wi {xss:List (List Int)} (h1:xss.flatten.length≤274877906944) (h2:xss.length≤274877906944):ai Tryz.prog 41 [.iN false xss] [] (.sl 0 0 0 1 xss.flatten.length xss.flatten.length false false) [.b [.ints .u8 xss.flatten.length xss.flatten]]:=by
 have l1:Tr Tryz.prog none 0 (aA 3 cB) (c1 xss 0 0) .normal (c1 xss xss.flatten.length xss.length):=by
  have key:=Tr.loop (P:=Tryz.prog) (ro:=none) (k:=0) 0 (c:=aA 3 cB) (by kernel_rfl) (fun j:Nat=>c1 xss (tot xss j) j) xss.length (s':=c1 xss xss.flatten.length xss.length) (fun j hj=>?_) ?_
  ·exact key
  ·have k:=D8 xss (tot xss j) j
   have t1:=Fv xss (j+1)
   have t2:=xK hj
   rw [Int.toNat_natCast,wrap_i64 _ (by omega) (by omega),wrap_i64 _ (by omega) (by omega)] at k
   refine Tr.post (Tr.cut (jB true true) 60 _ 0 (by omega) k ?_) (bq.same ?_ rfl)
   ·simp only [av,decide_eq_true_eq,Bool.not_eq_true',decide_eq_false_iff_not,true_and]
    exact ⟨⟨⟨by omega,aK (by omega) (by omega)⟩,by omega⟩,by omega⟩
   ·show (c1 _ _ _).t=(c1 _ _ _).t
    rw [show ((tot xss j:Nat):Int)+((xss.getD j []).length:Nat)=((tot xss (j+1):Nat):Int) by omega,show ((j:Int)+1)=((j+1:Nat):Int) by omega]
  ·have k:=Uq xss (tot xss xss.length) xss.length
   rw [vl] at k ⊢
   exact Tr.post (Tr.cut (jB false true) 60 _ 0 (by omega) k (by simp [aa])) (bq.same rfl rfl)
 have l2:Tr Tryz.prog none 0 (aA 6 cB) (c2 xss xss.flatten.length 0 (List.replicate xss.flatten.length 0) 0) .normal (c2 xss xss.flatten.length xss.flatten.length xss.flatten xss.length):=by
  have key:=Tr.loop (P:=Tryz.prog) (ro:=none) (k:=0) 2 (c:=aA 6 cB) (by kernel_rfl) (fun j:Nat=>c2 xss xss.flatten.length (tot xss j) (j8 xss j) j) xss.length (s':=c2 xss xss.flatten.length xss.flatten.length xss.flatten xss.length) (fun j hj=>?_) ?_
  ·exact key
  ·have k:=aa2 xss j xss.flatten.length (tot xss j) (j8 xss j)
   have t1:=Fv xss (j+1)
   have t2:=xK hj
   rw [Int.toNat_natCast,wrap_i64 _ (by omega) (by omega),Fw hj, ←t2] at k
   refine Tr.post (Tr.cut (jB true true) 60 _ 1 (by omega) k ?_) (bq.same ?_ rfl)
   ·simp only [av,Bool.and_eq_true,decide_eq_true_eq,true_and]
    exact ⟨⟨⟨by omega,aK (by omega) (by omega)⟩,by omega⟩,by omega,⟨⟨JF _ _,by omega⟩,by omega⟩⟩
   ·show (c2 _ _ _ [] _).t=(c2 _ _ _ [] _).t
    rw [show ((j:Int)+1)=((j+1:Nat):Int) by omega]
  ·have k:=Ur xss xss.length xss.flatten.length (tot xss xss.length) (j8 xss xss.length)
   have e:j8 xss xss.length=xss.flatten:=by unfold j8;rw [vl,Nat.sub_self,List.take_length];simp
   rw [vl,e] at k
   rw [vl,e]
   exact Tr.post (Tr.cut (jB true false) 60 _ 1 (by omega) k (by simp [aa])) (bq.same rfl rfl)
 have key:ai Tryz.prog 41 [.iN false xss] [] (.sl 0 0 0 1 xss.flatten.length xss.flatten.length false false) [.b [.ints .u8 xss.flatten.length xss.flatten]]:=by
  refine ai.cu (jB true true) 60 7 1 Tryz.func41 (by simp) rfl (fun s' x h=>?_) (s:=c2 xss xss.flatten.length xss.flatten.length xss.flatten xss.length) (p:=true) (by kernel_rfl) rfl rfl rfl
  refine bf.items (jB true true) 60 3 _ 0 (by simp) (zF xss) rfl (by decide) ?_
  refine bf.item 3 (by decide) l1 ?_
  have hm:=aa1 xss xss.flatten.length xss.length
  rw [Int.toNat_natCast] at hm
  refine bf.items (jB true true) 60 2 _ 1 (by simp) hm ?_ (by decide) ?_
  ·simp only [av,Bool.and_eq_true,decide_eq_true_eq,true_and];omega
  refine bf.item 6 (by decide) (Tr.pre l2 (bq.same rfl rfl)) h
 exact key
theorem agu {xss:List (List Int)} (h1:xss.flatten.length≤274877906944) (h2:xss.length≤274877906944):ai Tryz.prog 41 [.iN false xss] [] (.ro true .u8 xss.flatten) []:=(Wi h1 h2).frozen rfl
def agv:List SV→Option (SV×List Blk×Bool)
 | [.iN false xss]=>some (.sl 0 0 0 1 xss.flatten.length xss.flatten.length false false,[.b [.ints .u8 xss.flatten.length xss.flatten]],decide (xss.flatten.length≤274877906944)&&decide (xss.length≤274877906944))
 |_=>none
noncomputable def agw:Entry Tryz.prog:=.val 41 _ Tryz.func41 (by decide) rfl true 1 agv fun vs v new e=>by
 unfold agv at e
 split at e
 ·simp only [Option.some.injEq,Prod.mk.injEq,Bool.and_eq_true,decide_eq_true_eq] at e
  obtain ⟨rfl,rfl,h1,h2⟩:=e
  exact Wi h1 h2
 ·cases e
def coF:List SV→Option (SV×List Blk×Bool)
 | [.iN false xss]=>some (.ro true .u8 xss.flatten,[],decide (xss.flatten.length≤274877906944)&&decide (xss.length≤274877906944))
 |_=>none
noncomputable def jf:Entry Tryz.prog:=.val 41 _ Tryz.func41 (by decide) rfl true 0 coF fun vs v new e=>by
 unfold coF at e
 split at e
 ·simp only [Option.some.injEq,Prod.mk.injEq,Bool.and_eq_true,decide_eq_true_eq] at e
  obtain ⟨rfl,rfl,h1,h2⟩:=e
  exact agu h1 h2
 ·cases e
end Go.Proofs.YtibfpjeeanppjaaGreat.Sh
end
