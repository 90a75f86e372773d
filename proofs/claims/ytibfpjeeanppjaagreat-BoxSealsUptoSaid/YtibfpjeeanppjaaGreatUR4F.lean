/- This file holds the texts R4E, R4F, a section each. No conditions beyond those in the theorems. -/
import Derived.Test.YtibfpjeeanppjaaGreatUR4D
set_option linter.all false
set_option maxRecDepth 100000
section
namespace Go.Proofs.YtibfpjeeanppjaaGreat.R4
open Go Go.Sy Sh
noncomputable def X6:Code:=aH Tryz.f158
noncomputable def Yz:Code:=inner (inner (ak 3 X6))
noncomputable def tiI:Code:=inner (ak 2 Yz)
noncomputable def tiQ:Code:=inner (inner (ak 2 tiI))
noncomputable def vN (a b:List Int) (m:Nat) (o:List Int) (i:Int):St:=⟨slotsOf 66 [(0,.ro false .i64 a),(1,.ro false .i64 b),(5,.sl 0 0 0 1 m m true true),(6,.int .i64 i)],[.b [.ints .i64 m o]],true⟩
noncomputable def GH (a b:List Int) (m:Nat) (o:List Int) (i c j:Int):St:=⟨slotsOf 66 [(0,.ro false .i64 a),(1,.ro false .i64 b),(5,.sl 0 0 0 1 m m true true),(6,.int .i64 i),(7,.int .i64 c),(8,.int .i64 j)],[.b [.ints .i64 m o]],true⟩
def tiA (b:Bool):Nat→Option Bool:=fun i=>if i=20 then some b else none
def tjA:Nat→Option Bool:=fun i=>if i=26||i=44 then some true else none
def tjD:Nat→Option Bool:=fun i=>if i=29 then some true else if i=26||i=44 then some false else none
def tjE:Nat→Option Bool:=fun i=>if i=26||i=29 then some false else none
def YA (ob:Bool) (i j:Int) (m:Nat):Bool:=aa (aa ob (cK (J (i+j)) m)) (decide (0+(J (i+j)).toNat<m))
def YB (ob:Bool) (i j:Int) (o:List Int) (m:Nat):Bool:=aa (aa ob (cK (J (i+j)) m)) (decide (0+(J (i+j)).toNat<m)&&decide (o.length=m))
def vL (a b:List Int):Int:=J (J ((a.length:Int)+b.length)+1)
def TF (n:Int):Bool:=aa true (J n==n&&J n==n&&(decide (0≤n)&&decide (n≤n)&&decide ((8:Int)*n≤281474976710656)))
section
variable (a b o:List Int) (m:Nat) (i c j:Int)
theorem xe:(az Tryz.prog (vJ fun _=>none) 60 0 3 (atoms X6) ⟨aT Tryz.f158.ntmps [.ro false .i64 a,.ro false .i64 b],[],true⟩).bind (St.cut [0,1,5,6] 1)=some {vN a b (vL a b).toNat (List.replicate (vL a b).toNat 0) 0 with ob:=TF (vL a b)}:=by kernel_rfl
theorem agK:(az Tryz.prog (vJ (tiA true)) 60 0 2 (atoms Yz) (vN a b m o i)).bind (St.cut [0,1,5,6] 1)=some {vN a b m o i with ob:=aa true (decide (i<a.length))}:=by kernel_rfl
theorem agL:(az Tryz.prog (vJ fun _=>none) 60 0 2 (atoms tiI) (vN a b m o i)).bind (St.cut [0,1,5,6,7,8] 1)=some (GH a b m o i 0 0):=by kernel_rfl
theorem agM:(exec Tryz.prog (vJ fun _=>none) 60 0 (ak 3 Yz) (vN a b m o i)).bind (fun r=>(r.2.cut [0,1,5,6] 1).map fun q=>(r.1,q))=some (.normal,vN a b m o (J (i+1))):=by kernel_rfl
theorem W8:(exec Tryz.prog (vJ (tiA false)) 60 0 Yz (vN a b m o i)).bind (fun r=>(r.2.cut [0,1,5,6] 1).map fun q=>(r.1,q))=some (.exit 0,{vN a b m o i with ob:=aa true (!decide (i<a.length))}):=by kernel_rfl
theorem agN:(exec Tryz.prog (vJ tjA) 60 0 tiQ (GH a b m o i c j)).bind (fun r=>(r.2.cut [0,1,5,6,7,8] 1).map fun q=>(r.1,q))=
  some (.normal,{GH a b m (o.set (0+(J (i+j)).toNat) ((J (J (o.getD (0+(J (i+j)).toNat) 0+c)+J (a.getD i.toNat 0*b.getD j.toNat 0))).tmod 256)) i (J ((J (J (o.getD (0+(J (i+j)).toNat) 0+c)+J (a.getD i.toNat 0*b.getD j.toNat 0))).tdiv 256)) (J (j+1)) with
   ob:=YB (aa (aa (aa (aa (aa (YA (aa true (decide (j<b.length))) i j m) (decide (j<b.length))) (cK i a.length)) (decide (i.toNat<a.length))) (cK j b.length)) (decide (j.toNat<b.length))) i j o m}):=by kernel_rfl
theorem agO:(exec Tryz.prog (vJ tjD) 60 0 tiQ (GH a b m o i c j)).bind (fun r=>(r.2.cut [0,1,5,6,7,8] 1).map fun q=>(r.1,q))=
  some (.normal,{GH a b m (o.set (0+(J (i+j)).toNat) ((J (o.getD (0+(J (i+j)).toNat) 0+c)).tmod 256)) i (J ((J (o.getD (0+(J (i+j)).toNat) 0+c)).tdiv 256)) (J (j+1)) with
   ob:=YB (aa (YA (aa (aa true (!decide (j<b.length))) (decide (c>0))) i j m) (!decide (j<b.length))) i j o m}):=by kernel_rfl
theorem W9:(exec Tryz.prog (vJ tjE) 60 0 tiQ (GH a b m o i c j)).bind (fun r=>(r.2.cut [0,1,5,6,7,8] 1).map fun q=>(r.1,q))=
  some (.exit 2,{GH a b m o i c j with ob:=aa (aa true (!decide (j<b.length))) (!decide (c>0))}):=by kernel_rfl
end
theorem E6 {ob:Bool} {i j:Nat} {m:Nat} (h1:ob=true) (h:i+j<m) (hm:m<10000000):YA ob i j m=true:=by
 unfold YA
 rw [h1,bu (by omega) (by omega),aK (by omega) (by omega),decide_eq_true (show 0+(((i:Int)+j)).toNat<m by omega)];rfl
theorem E7 {ob:Bool} {i j:Nat} {m:Nat} {o:List Int} (h1:ob=true) (h:i+j<m) (hm:m<10000000) (ho:o.length=m):YB ob i j o m=true:=by
 unfold YB
 rw [h1,bu (by omega) (by omega),aK (by omega) (by omega),decide_eq_true (show 0+(((i:Int)+j)).toNat<m by omega),decide_eq_true ho];rfl
theorem GI {a b o:List Int} (da:Dg a) (db:Dg b) (d:Dg o) (ho:o.length=a.length+b.length+1) (ha:a.length<1000000) (hb:b.length<1000000) {i:Nat} (hi:i<a.length) (h0:(tR (a.getD i 0) b i o (qt (a.getD i 0) b i o)).2=0):
  Tr Tryz.prog none 0 (ak 2 tiI) (GH a b o.length o i 0 0) .normal (GH a b o.length (tR (a.getD i 0) b i o (qt (a.getD i 0) b i o)).1 i (tR (a.getD i 0) b i o (qt (a.getD i 0) b i o)).2 (qt (a.getD i 0) b i o:Nat)):=by
 have hn:=Mi (a.getD i 0) b i o
 have hx:=da.getD i
 have key:=Tr.loop (P:=Tryz.prog) (ro:=none) (k:=0) 2 (c:=ak 2 tiI) (by kernel_rfl) (fun j:Nat=>GH a b o.length (tR (a.getD i 0) b i o j).1 i (tR (a.getD i 0) b i o j).2 j) (qt (a.getD i 0) b i o)
  (s':=GH a b o.length (tR (a.getD i 0) b i o (qt (a.getD i 0) b i o)).1 i (tR (a.getD i 0) b i o (qt (a.getD i 0) b i o)).2 (qt (a.getD i 0) b i o:Nat)) (fun j hj=>?_) ?_
 ·exact key
 ·obtain ⟨t1,t2,t3,t4,_⟩:=Mh hx db d (show i+b.length<o.length by omega) j (by omega)
  have hs:(tR (a.getD i 0) b i o (j+1))=tS (a.getD i 0) b i j (tR (a.getD i 0) b i o j):=rfl
  have hq:∀q,qt (a.getD i 0) b i o=q→j<q:=fun q e=>e▸hj
  show Tr _ _ _ _ (GH a b o.length (tR (a.getD i 0) b i o j).1 i (tR (a.getD i 0) b i o j).2 j) _ (GH a b o.length (tR (a.getD i 0) b i o (j+1)).1 i (tR (a.getD i 0) b i o (j+1)).2 ((j+1:Nat):Int))
  have hc:¬j<b.length→j=b.length∧0<(tR (a.getD i 0) b i o b.length).2:=fun h=>by
   unfold qt at hj
   split at hj
   ·rename_i q;exact ⟨by omega,q⟩
   ·omega
  rw [hs]
  by_cases ib:j<b.length
  ·generalize tR (a.getD i 0) b i o j=s at*
   obtain ⟨l,c⟩:=s
   simp only at t1 t2 t3 t4
   have hy:=db.getD j
   have p0:0≤a.getD i 0*b.getD j 0:=Int.mul_nonneg hx.1 hy.1
   have p1:a.getD i 0*b.getD j 0≤255*255:=Int.mul_le_mul (by omega) (by omega) hy.1 (by decide)
   have hg:=t2.getD (i+j)
   have e:=agN a b l o.length i c j
   have hO:YB (aa (aa (aa (aa (aa (YA (aa true (decide ((j:Int)<b.length))) i j o.length) (decide ((j:Int)<b.length))) (cK (i:Int) a.length)) (decide ((i:Int).toNat<a.length))) (cK (j:Int) b.length)) (decide ((j:Int).toNat<b.length))) i j l o.length=true:=by
    refine E7 ?_ (by omega) (by omega) t1
    rw [E6 (by rw [decide_eq_true (show (j:Int)<b.length by omega)];rfl) (by omega) (by omega),decide_eq_true (show (j:Int)<b.length by omega),aK (by omega) (by omega),aK (by omega) (by omega),decide_eq_true (show (i:Int).toNat<a.length by omega),decide_eq_true (show (j:Int).toNat<b.length by omega)];rfl
   rw [hO] at e
   rw [Int.toNat_natCast,Int.toNat_natCast,bu (n:=(i:Int)+j) (by omega) (by omega),show 0+((i:Int)+j).toNat=i+j by omega,bu (n:=a.getD i 0*b.getD j 0) (by omega) (by omega),bu (n:=l.getD (i+j) 0+c) (by omega) (by omega),bu (n:=l.getD (i+j) 0+c+a.getD i 0*b.getD j 0) (by omega) (by omega),cT (by omega),dY (by omega),bu (n:=(l.getD (i+j) 0+c+a.getD i 0*b.getD j 0)/256) (by omega) (by omega),bu (n:=(j:Int)+1) (by omega) (by omega)] at e
   exact Tr.post (Tr.cut (cH _) 60 _ 1 (by omega) e rfl) (aU.same rfl rfl)
  ·obtain ⟨hjb,hpos⟩:=hc ib
   rw [←hjb] at hpos
   generalize tR (a.getD i 0) b i o j=s at*
   obtain ⟨l,c⟩:=s
   simp only at t1 t2 t3 t4 hpos
   have hg:=t2.getD (i+j)
   have hz:=kK (l:=b) (i:=j) (by omega)
   have e:=agO a b l o.length i c j
   have hO:YB (aa (YA (aa (aa true (!decide ((j:Int)<b.length))) (decide (c>0))) i j o.length) (!decide ((j:Int)<b.length))) i j l o.length=true:=by
    refine E7 ?_ (by omega) (by omega) t1
    rw [decide_eq_false (show ¬(j:Int)<b.length by omega),decide_eq_true (show c>0 by omega),E6 (ob:=aa (aa true (!false)) true) rfl (by omega) (by omega)];rfl
   rw [hO] at e
   rw [bu (n:=(i:Int)+j) (by omega) (by omega),show 0+((i:Int)+j).toNat=i+j by omega,bu (n:=l.getD (i+j) 0+c) (by omega) (by omega),cT (by omega),dY (by omega),bu (n:=(l.getD (i+j) 0+c)/256) (by omega) (by omega),bu (n:=(j:Int)+1) (by omega) (by omega)] at e
   have e2:tS (a.getD i 0) b i j (l,c)=(l.set (i+j) ((l.getD (i+j) 0+c)%256),(l.getD (i+j) 0+c)/256):=by unfold tS;simp only [hz,Int.mul_zero,Int.add_zero]
   rw [e2]
   exact Tr.post (Tr.cut (cH _) 60 _ 1 (by omega) e rfl) (aU.same rfl rfl)
 ·have e:=W9 a b (tR (a.getD i 0) b i o (qt (a.getD i 0) b i o)).1 o.length i (tR (a.getD i 0) b i o (qt (a.getD i 0) b i o)).2 (qt (a.getD i 0) b i o:Nat)
  rw [decide_eq_false (show ¬((qt (a.getD i 0) b i o:Nat):Int)<b.length by omega),decide_eq_false (show ¬(tR (a.getD i 0) b i o (qt (a.getD i 0) b i o)).2>0 by omega)] at e
  exact Tr.cut (cH _) 60 _ 1 (by omega) e rfl
theorem C3 {a b:List Int} (da:Dg a) (db:Dg b) (ha:a.length<1000000) (hb:b.length<1000000) {i:Nat} (hi:i<a.length):
  Tr Tryz.prog none 0 Yz (vN a b (a.length+b.length+1) (tO a b i) i) .normal (vN a b (a.length+b.length+1) (tO a b (i+1)) ((i+1:Nat):Int)):=by
 obtain ⟨h1,h2,h3⟩:=EZ da db i (by omega)
 obtain ⟨_,_,h0,_⟩:=Mj da db hi h1 h2 h3
 have hrow:=GI da db h2 h1 ha hb hi h0
 rw [h1] at hrow
 have e:=agK a b (tO a b i) (a.length+b.length+1) i
 rw [decide_eq_true (show (i:Int)<a.length by omega)] at e
 have z:=agM a b (tO a b (i+1)) (a.length+b.length+1) i
 rw [bu (n:=(i:Int)+1) (by omega) (by omega)] at z
 have GJ:ak 2 Yz= .block 1 tiI:=by kernel_rfl
 refine Tr.aD (aG.items (cH _) 60 2 _ 1 (by omega) e rfl (by decide) ?_)
 refine aG.item 2 (by decide) (s1:=vN a b (a.length+b.length+1) (tO a b (i+1)) i) ?_ (aG.item 3 (by decide) (s1:=vN a b (a.length+b.length+1) (tO a b (i+1)) ((i+1:Nat):Int)) (Tr.cut (cH _) 60 _ 1 (by omega) z rfl) ⟨rfl,rfl⟩)
 rw [GJ]
 refine Tr.aQ ?_ (by simp)
 refine Tr.aD (aG.items (cH _) 60 2 _ 1 (by omega) (agL a b (tO a b i) (a.length+b.length+1) i) rfl (by decide) ?_)
 refine aG.item 2 (by decide) (s1:=vN a b (a.length+b.length+1) (tO a b (i+1)) i) (Tr.post hrow ?_) ⟨rfl,rfl⟩
 exact aU.cut (n:=1) (live:=[0,1,5,6]) (by omega) (by kernel_rfl)
theorem tA {a b:List Int} (da:Dg a) (db:Dg b) (ha:a.length<1000000) (hb:b.length<1000000):
  aj Tryz.prog 158 [.ro false .i64 a,.ro false .i64 b] [] (.sl 0 0 0 1 (a.length+b.length+1) (a.length+b.length+1) true true) [.b [.ints .i64 (a.length+b.length+1) (sv a b)]]:=by
 have hM:vL a b=((a.length+b.length+1:Nat):Int):=by unfold vL;rw [bu (n:=(a.length:Int)+b.length) (by omega) (by omega),bu (by omega) (by omega)];omega
 have hh:=xe a b
 have ho:TF (vL a b)=true:=by
  unfold TF
  rw [hM,bu (by omega) (by omega),beq_self_eq_true,decide_eq_true (show (0:Int)≤((a.length+b.length+1:Nat):Int) by omega),decide_eq_true (Int.le_refl _),decide_eq_true (show (8:Int)*((a.length+b.length+1:Nat):Int)≤281474976710656 by omega)];rfl
 rw [ho,hM,Int.toNat_natCast] at hh
 have bS:Tr Tryz.prog none 0 (ak 3 X6) (vN a b (a.length+b.length+1) (tO a b 0) 0) .normal (vN a b (a.length+b.length+1) (sv a b) a.length):=by
  have key:=Tr.loop (P:=Tryz.prog) (ro:=none) (k:=0) 0 (c:=ak 3 X6) (by kernel_rfl) (fun i:Nat=>vN a b (a.length+b.length+1) (tO a b i) i) a.length (s':=vN a b (a.length+b.length+1) (sv a b) a.length) (fun i hi=>C3 da db ha hb hi) ?_
  ·exact key
  ·have e:=W8 a b (tO a b a.length) (a.length+b.length+1) a.length
   rw [decide_eq_false (show ¬((a.length:Int)<a.length) by omega)] at e
   exact Tr.cut (cH _) 60 _ 1 (by omega) e rfl
 refine aj.cg (cH fun _=>none) 60 4 1 Tryz.func158 (by simp) rfl (fun s' x h=>?_) (s:=vN a b (a.length+b.length+1) (sv a b) a.length) (p:=true) (by kernel_rfl) rfl rfl rfl
 exact aG.items (cH fun _=>none) 60 3 _ 1 (by simp) hh rfl (by decide) (aG.item 3 (by decide) bS h)
def tB:List SV→Option (SV×List Blk×Bool)
 | [.ro false .i64 a,.ro false .i64 b]=>some (.ro true .i64 (sv a b),[],iH a&&iH b&&decide (a.length<1000000)&&decide (b.length<1000000))
 |_=>none
noncomputable def xg:Entry Tryz.prog:=.val 158 _ Tryz.func158 (by decide) rfl true 0 tB fun vs v new e=>by
 unfold tB at e
 split at e
 ·rename_i a b
  simp only [Option.some.injEq,Prod.mk.injEq,Bool.and_eq_true,decide_eq_true_eq,bF] at e
  obtain ⟨rfl,rfl,⟨⟨h1,h2⟩,h3⟩,h4⟩:=e
  exact aj.frozen (N:=a.length+b.length+1) (ex:=true) (wh:=true) (tA h1 h2 h3 h4) (yP h1 h2)
 ·cases e
end Go.Proofs.YtibfpjeeanppjaaGreat.R4
end
section
namespace Go.Proofs.YtibfpjeeanppjaaGreat.R4
open Go Go.Sy Sh
theorem C4:∀{l:List Int},Dg l→Tm l→l≠[]→(256:Int)^(l.length-1)≤nv l
 | [],_,_,h=>absurd rfl h
 | [x],d,t,_=>by
  have:=(Dg.cons.1 d).1
  have:x≠0:=t
  simp only [List.length_cons,List.length_nil,nv]
  omega
 |x::y::l,d,t,_=>by
  have ih:=C4 (l:=y::l) (Dg.cons.1 d).2 t (by simp)
  have hx:=(Dg.cons.1 d).1
  rw [nv]
  simp only [List.length_cons,Nat.add_sub_cancel] at ih ⊢
  rw [Int.pow_succ]
  omega
theorem Xa {a b:List Int} (da:Dg a) (db:Dg b) (t:Tm b) (h:nv b≤nv a):b.length≤a.length:=by
 by_cases q:b=[]
 ·rw [q];simp
 ·have h1:=C4 db t q
  have h2:=vt da
  apply Classical.byContradiction
  intro hn
  have:=kJ (show a.length≤b.length-1 by omega)
  omega
noncomputable def smB:Code:=aH Tryz.f156
noncomputable def QS:Code:=inner (inner (ak 1 smB))
noncomputable def Mt:Code:=inner (ak 2 QS)
noncomputable def smP:Code:=inner (inner (ak 3 Mt))
noncomputable def ze:Code:=inner (inner (ak 6 Mt))
noncomputable def yy (f:Nat→Option Bool):bK:=mk (P:=Tryz.prog) [Mr,xg,Tj] [] f
theorem eu (f:Nat→Option Bool):ag Tryz.prog (yy f):=ai _ aF.nil _ _
noncomputable def vK (a:List Int):St:=⟨slotsOf 80 [(0,.ro false .i64 a)],[],true⟩
noncomputable def Hq (a:List Int) (m:Nat) (l:List Int) (i:Int):St:=⟨slotsOf 80 [(0,.ro false .i64 a),(3,.sl 0 0 0 1 m m false true),(4,.nl (.slice none 0 0)),(5,.int .i64 i)],[.b [.ints .i64 m l]],true⟩
noncomputable def agP (a:List Int):St:=⟨slotsOf 80 [(0,.ro false .i64 a),(3,.nl (.slice none 0 0)),(4,.nl (.slice none 0 0)),(5,.int .i64 0)],[],true⟩
noncomputable def smK (a:List Int) (m:Nat) (l:List Int):St:=⟨slotsOf 80 [(0,.ro false .i64 a),(3,.sl 0 0 0 1 m m false true),(4,.nl (.slice none 0 0)),(6,.int .i64 16)],[.b [.ints .i64 m l]],true⟩
noncomputable def Hr (a:List Int) (m:Nat) (l:List Int) (n:Nat) (h:List Int) (i:Int):St:=⟨slotsOf 80 [(0,.ro false .i64 a),(3,.sl 0 0 0 1 m m false true),(4,.sl 1 0 0 1 n n false true),(6,.int .i64 i)],[.b [.ints .i64 m l],.b [.ints .i64 n h]],true⟩
def YC:Nat→Option Bool:=fun i=>if i=10 then some true else none
def sm2:Nat→Option Bool:=fun i=>if i=10 then some false else if i=14||i=19 then some true else none
def sm3:Nat→Option Bool:=fun i=>if i=10||i=14 then some false else none
def sm4:Nat→Option Bool:=fun i=>if i=10||i=19 then some false else if i=14 then some true else none
def A7 (ob:Bool) (a:List Int):Bool:=aa (aa ob (cK 16 a.length)) (decide (16<a.length))
def zW (l h:List Int) (m n:Nat):Bool:=aa (aa (aa true (aa (aa (decide (h.length=n)&&(decide (n≤n)&&true)) (decide (h.length=n))) (iH h&&true&&decide (h.length<1000000)&&true)))
 (aa (aa (decide (l.length=m)&&(decide (m≤m)&&true)) (decide (l.length=m))) (iH l&&iH (sv h [5])&&decide (l.length<1000000)&&decide ((sv h [5]).length<1000000)))) (aa true (decide ((iE l (sv h [5])).length<1000000)))
section
variable (a l h:List Int) (m n:Nat) (i:Int)
theorem yA:(az Tryz.prog (yy YC) 60 0 1 (atoms smB) ⟨aT Tryz.f156.ntmps [.ro false .i64 a],[],true⟩).bind (St.cut [0] 0)=some (vK a):=by kernel_rfl
theorem Xb:(az Tryz.prog (yy YC) 60 0 2 (atoms QS) (vK a)).bind (St.cut [0] 0)=some {vK a with ob:=aa true (decide ((a.length:Int)>17))}:=by kernel_rfl
theorem Xc:(az Tryz.prog (yy sm2) 60 0 2 (atoms QS) (vK a)).bind (St.cut [0] 0)=some {vK a with ob:=aa (A7 (aa (aa true (!decide ((a.length:Int)>17))) ((a.length:Int)==17)) a) (decide (a.getD 16 0>3))}:=by kernel_rfl
theorem QT:(exec Tryz.prog (yy sm3) 60 0 QS (vK a)).bind (fun r=>(r.2.cut [0] 0).map fun q=>(r.1,q))=some (.exit 0,{vK a with ob:=aa (aa true (!decide ((a.length:Int)>17))) (!((a.length:Int)==17))}):=by kernel_rfl
theorem QU:(exec Tryz.prog (yy sm4) 60 0 QS (vK a)).bind (fun r=>(r.2.cut [0] 0).map fun q=>(r.1,q))=some (.exit 0,{vK a with ob:=aa (A7 (aa (aa true (!decide ((a.length:Int)>17))) ((a.length:Int)==17)) a) (!decide (a.getD 16 0>3))}):=by kernel_rfl
theorem agQ:(az Tryz.prog (yy YC) 60 0 3 (atoms Mt) (vK a)).bind (St.cut [0,3,4,5] 0)=some (agP a):=by kernel_rfl
theorem acf:(exec Tryz.prog (yy fun i=>if i=25||i=29||i=36 then some true else none) 60 0 smP (Hq a m l i)).bind (fun r=>(r.2.cut [0,3,4,5] 1).map fun q=>(r.1,q))=
  some (.normal,{Hq a (m+1) (l++[a.getD i.toNat 0]) (J (i+1)) with ob:=aa (aa (aa (aa (aa true (decide (i<a.length))) (decide (i<16))) (cK i a.length)) (decide (i.toNat<a.length))) (tK l.length m)}):=by kernel_rfl
theorem acg:(exec Tryz.prog (yy fun i=>if i=25 then some true else if i=29 then some false else none) 60 0 smP (Hq a m l i)).bind (fun r=>(r.2.cut [0,3,4,5] 1).map fun q=>(r.1,q))=
  some (.normal,{Hq a m l (J (i+1)) with ob:=aa (aa true (decide (i<a.length))) (!decide (i<16))}):=by kernel_rfl
theorem ach:(exec Tryz.prog (yy fun i=>if i=25 then some false else none) 60 0 smP (Hq a m l i)).bind (fun r=>(r.2.cut [0,3,4,5] 1).map fun q=>(r.1,q))=
  some (.exit 2,{Hq a m l i with ob:=aa true (!decide (i<a.length))}):=by kernel_rfl
theorem agR:(az Tryz.prog (yy fun i=>if i=43 then some true else none) 60 0 2 ((atoms Mt).drop 4) (Hq a m l i)).bind (St.cut [0,3,4,6] 1)=
  some {smK a (m+1) (l++[(a.getD 16 0).tmod 4]) with ob:=aa (A7 true a) (tK l.length m)}:=by kernel_rfl
theorem aci:(exec Tryz.prog (yy fun i=>if i=47||i=59||i=72 then some true else none) 60 0 ze (Hr a m l n h i)).bind (fun r=>(r.2.cut [0,3,4,6] 2).map fun q=>(r.1,q))=
  some (.normal,{Hr a m l (n+1) (h++[J (J ((a.getD i.toNat 0).tdiv 4)+J ((a.getD (J (i+1)).toNat 0).tmod 4*64))]) (J (i+1)) with
   ob:=aa (aa (aa (aa (dO true i a.length) (decide (J (i+1)<a.length))) (cK (J (i+1)) a.length)) (decide ((J (i+1)).toNat<a.length))) (tK h.length n)}):=by kernel_rfl
theorem acj:(exec Tryz.prog (yy fun i=>if i=47||i=72 then some true else if i=59 then some false else none) 60 0 ze (Hr a m l n h i)).bind (fun r=>(r.2.cut [0,3,4,6] 2).map fun q=>(r.1,q))=
  some (.normal,{Hr a m l (n+1) (h++[J ((a.getD i.toNat 0).tdiv 4)]) (J (i+1)) with ob:=aa (aa (dO true i a.length) (!decide (J (i+1)<a.length))) (tK h.length n)}):=by kernel_rfl
theorem ack:(exec Tryz.prog (yy fun i=>if i=47 then some false else none) 60 0 ze (Hr a m l n h i)).bind (fun r=>(r.2.cut [0,3,4,6] 2).map fun q=>(r.1,q))=
  some (.exit 4,{Hr a m l n h i with ob:=aa true (!decide (i<a.length))}):=by kernel_rfl
theorem agS:(exec Tryz.prog (yy YC) 60 0 (ak 7 Mt) (Hr a m l n h i)).bind (fun r=>(r.2.cut [0] 0).map fun q=>(r.1,q))=
  some (.normal,{vK (lY (iE l (sv h [5]))) with ob:=zW l h m n}):=by kernel_rfl
end
theorem rG {ob:Bool} {a:List Int} (h1:ob=true) (h:16<a.length):A7 ob a=true:=by
 unfold A7
 rw [h1,aK (by omega) (by omega),decide_eq_true h];rfl
theorem Xd {a:List Int} (ha:16<a.length) (hb:a.length<100000):Tr Tryz.prog none 0 (ak 3 Mt) (Hq a 0 [] 0) .normal (Hq a 16 (a.take 16) a.length):=by
 have key:=Tr.loop (P:=Tryz.prog) (ro:=none) (k:=0) 2 (c:=ak 3 Mt) (by kernel_rfl) (fun j:Nat=>Hq a (min j 16) (a.take (min j 16)) j) a.length (s':=Hq a 16 (a.take 16) a.length) (fun j hj=>?_) ?_
 ·exact key
 ·show Tr _ _ _ smP _ _ _
  have hJ:J ((j:Int)+1)=((j+1:Nat):Int):=by rw [bu (by omega) (by omega)];rfl
  by_cases q:j<16
  ·have e:=acf a (a.take j) j j
   have hl:(a.take j).length=j:=by rw [List.length_take];omega
   rw [hl,hJ,Int.toNat_natCast, ←vw hj,cr (by omega),decide_eq_true (show (j:Int)<a.length by omega),decide_eq_true (show (j:Int)<16 by omega),aK (by omega) (by omega),decide_eq_true hj] at e
   rw [Nat.min_eq_left (show j≤16 by omega),Nat.min_eq_left (show j+1≤16 by omega)]
   exact Tr.post (Tr.cut (eu _) 60 _ 1 (by omega) e rfl) (aU.same rfl rfl)
  ·have e:=acg a (a.take 16) 16 j
   rw [hJ,decide_eq_true (show (j:Int)<a.length by omega),decide_eq_false (show ¬(j:Int)<16 by omega)] at e
   rw [Nat.min_eq_right (show 16≤j by omega),Nat.min_eq_right (show 16≤j+1 by omega)]
   exact Tr.post (Tr.cut (eu _) 60 _ 1 (by omega) e rfl) (aU.same rfl rfl)
 ·show Tr _ _ _ smP _ _ _
  have e:=ach a (a.take 16) 16 a.length
  rw [decide_eq_false (show ¬(a.length:Int)<a.length by omega)] at e
  rw [Nat.min_eq_right (show 16≤a.length by omega)]
  exact Tr.cut (eu _) 60 _ 1 (by omega) e rfl
theorem QV {a l:List Int} {m:Nat} (d:Dg a) (ha:16<a.length) (hb:a.length<100000):Tr Tryz.prog none 0 (ak 6 Mt) (Hr a m l 0 [] 16) .normal (Hr a m l (a.length-16) (CY a) a.length):=by
 have key:=Tr.loop (P:=Tryz.prog) (ro:=none) (k:=0) 4 (c:=ak 6 Mt) (by kernel_rfl) (fun j:Nat=>Hr a m l j ((List.range j).map (Ml a)) ((16+j:Nat):Int)) (a.length-16) (s':=Hr a m l (a.length-16) (CY a) a.length) (fun j hj=>?_) ?_
 ·exact key
 ·show Tr _ _ _ ze _ _ _
  have hJ:J (((16+j:Nat):Int)+1)=((16+(j+1):Nat):Int):=by rw [bu (by omega) (by omega)];rfl
  have hl:((List.range j).map (Ml a)).length=j:=by simp
  have h1:=d.getD (16+j)
  have h2:=d.getD (17+j)
  have hr:(List.range (j+1)).map (Ml a)=(List.range j).map (Ml a)++[Ml a j]:=by rw [List.range_succ,List.map_append];rfl
  rw [hr]
  by_cases q:17+j<a.length
  ·have e:=aci a l ((List.range j).map (Ml a)) m j ((16+j:Nat):Int)
   rw [hl,hJ,lI rfl (by omega),cr (by omega),aK (by omega) (by omega),decide_eq_true (show ((16+(j+1):Nat):Int)<a.length by omega),Int.toNat_natCast,Int.toNat_natCast,show 16+(j+1)=17+j by omega,dY h1.1,cT h2.1,decide_eq_true q,bu (n:=a.getD (16+j) 0/4) (by omega) (by omega),bu (n:=a.getD (17+j) 0%4*64) (by omega) (by omega),bu (n:=a.getD (16+j) 0/4+a.getD (17+j) 0%4*64) (by omega) (by omega)] at e
   rw [show 16+(j+1)=17+j by omega]
   exact Tr.post (Tr.cut (eu _) 60 _ 2 (by omega) e rfl) (aU.same rfl rfl)
  ·have e:=acj a l ((List.range j).map (Ml a)) m j ((16+j:Nat):Int)
   have z:=kK (l:=a) (i:=17+j) (by omega)
   have hf:Ml a j=a.getD (16+j) 0/4:=by unfold Ml;rw [z];rw [show (0:Int)%4*64=0 from rfl,Int.add_zero]
   rw [hl,hJ,lI rfl (by omega),cr (by omega),decide_eq_false (show ¬((16+(j+1):Nat):Int)<a.length by omega),Int.toNat_natCast,dY h1.1,bu (n:=a.getD (16+j) 0/4) (by omega) (by omega)] at e
   rw [hf]
   exact Tr.post (Tr.cut (eu _) 60 _ 2 (by omega) e rfl) (aU.same rfl rfl)
 ·show Tr _ _ _ ze _ _ _
  have e:=ack a l (CY a) m (a.length-16) a.length
  rw [decide_eq_false (show ¬(a.length:Int)<a.length by omega)] at e
  rw [show 16+(a.length-16)=a.length by omega]
  exact Tr.cut (eu _) 60 _ 2 (by omega) e rfl
theorem vm {a:List Int} (d:Dg a) (t:Tm a) (hg:Tf a=true) (hb:a.length<100000):Tr Tryz.prog none 0 QS (vK a) .normal (vK (v9 a)):=by
 have yC:16<a.length:=by
  unfold Tf at hg
  simp only [Bool.or_eq_true,decide_eq_true_eq] at hg
  omega
 obtain ⟨l1,l2,_,_⟩:=Tg d yC
 have g16:=d.getD 16
 have GJ:ak 2 QS= .block 1 Mt:=by kernel_rfl
 have hll:(Mk a).length=17:=by unfold Mk;rw [List.length_append,List.length_take,Nat.min_eq_left (by omega)];rfl
 have hhl:(CY a).length=a.length-16:=by simp [CY]
 have htl:(sv (CY a) [5]).length=a.length-16+1+1:=by rw [yP l2 d5,hhl];rfl
 have body:Tr Tryz.prog none 0 Mt (vK a) .normal (vK (v9 a)):=by
  refine Tr.aD (aG.items (eu _) 60 3 _ 0 (by omega) (agQ a) rfl (by decide) ?_)
  refine aG.pre (s1:=Hq a 0 [] 0) (aG.item 3 (by decide) (Xd yC hb) ?_) ((aU.nothing 3 .i64 false true rfl).trans (aU.same rfl rfl)) (by decide)
  have k:=agR a (a.take 16) 16 a.length
  rw [rG rfl yC,List.length_take,Nat.min_eq_left (by omega),cr (by omega),cT g16.1] at k
  refine aG.items (eu _) 60 2 _ 1 (by omega) k rfl (by decide) ?_
  rw [List.drop_drop]
  refine aG.pre (s1:=Hr a 17 (Mk a) 0 [] 16) (aG.item 6 (by decide) (QV d yC hb) ?_) ((aU.nothing 4 .i64 false true rfl).trans (aU.same rfl rfl)) (by decide)
  have r:=agS a (Mk a) (CY a) 17 (a.length-16) a.length
  have ho:zW (Mk a) (CY a) 17 (a.length-16)=true:=by
   unfold zW
   rw [hll,hhl,bF.2 l1,bF.2 l2,bF.2 (yO l2 d5).1,htl,jP]
   have:=o7 (Mk a) (sv (CY a) [5])
   have hpm:yN (Mk a) (sv (CY a) [5])=max 17 (a.length-16+1+1):=by unfold yN;rw [hll,htl]
   simp [au]
   omega
  rw [ho] at r
  exact aG.item 7 (by decide) (s1:=vK (v9 a)) (Tr.cut (eu _) 60 _ 0 (by omega) r rfl) ⟨rfl,rfl⟩
 have e:aG Tryz.prog none 0 ((atoms QS).drop 2) (vK a) .normal (vK (v9 a)):=by
  refine aG.item 2 (by decide) (s1:=vK (v9 a)) ?_ ⟨rfl,rfl⟩
  rw [GJ]
  exact Tr.aQ body (by simp)
 by_cases q:17<a.length
 ·have i1:=Xb a
  rw [decide_eq_true (show (a.length:Int)>17 by omega)] at i1
  exact Tr.aD (aG.items (eu _) 60 2 _ 0 (by omega) i1 rfl (by decide) e)
 ·have h17:a.length=17∧3<a.getD 16 0:=by
   unfold Tf at hg
   simp only [Bool.or_eq_true,decide_eq_true_eq] at hg
   omega
  have i2:=Xc a
  rw [decide_eq_true (show a.getD 16 0>3 from h17.2),rG (by rw [h17.1];rfl) yC] at i2
  exact Tr.aD (aG.items (eu _) 60 2 _ 0 (by omega) i2 rfl (by decide) e)
theorem GK:∀(v:Nat) {a:List Int},nv a=v→Dg a→Tm a→a.length<100000→dy Tryz.prog none 0 QS (vK a) (.exit 0) (vK (Mn (E3 v:Nat))):=fun v=>by
 induction v using Nat.strongRecOn with
 |ind v ih=>
  intro a hv d t hb
  cases hg:Tf a with
  |true=>
   have vV:=(E2 d t).1 hg
   have yC:16<a.length:=by
    unfold Tf at hg
    simp only [Bool.or_eq_true,decide_eq_true_eq] at hg
    omega
   obtain ⟨s1,s2,s3⟩:=WZ d yC
   have hs:nv (v9 a)=((v%1361129467683753853853498429727072845824+5*(v/1361129467683753853853498429727072845824):Nat):Int):=by rw [s3,hv];omega
   have hlt:v%1361129467683753853853498429727072845824+5*(v/1361129467683753853853498429727072845824)<v:=by omega
   rw [E3,dif_neg (by omega)]
   exact dy.step (vm d t hg hb) (ih _ hlt hs s1 s2 (by have:=Xa d s1 s2 (by omega);omega))
  |false=>
   have vV:¬1361129467683753853853498429727072845824≤nv a:=fun q=>by
    have:=(E2 d t).2 q
    rw [hg] at this
    cases this
   rw [E3,dif_pos (by omega), ←hv,Mo d t]
   unfold Tf at hg
   rw [Bool.or_eq_false_iff,decide_eq_false_iff_not,decide_eq_false_iff_not] at hg
   by_cases q:a.length=17
   ·have e:=QU a
    rw [decide_eq_false (show ¬a.getD 16 0>3 by omega),rG (by rw [q];rfl) (by omega)] at e
    exact dy.leave (Tr.cut (k:=0) (eu _) 60 _ 0 (Nat.le_refl _) e rfl) (by simp)
   ·have e:=QT a
    rw [decide_eq_false (show ¬(a.length:Int)>17 by omega),beq_false_of_ne (show (a.length:Int)≠17 by omega)] at e
    exact dy.leave (Tr.cut (k:=0) (eu _) 60 _ 0 (Nat.le_refl _) e rfl) (by simp)
noncomputable def Nz (a:List Int):List Int:=Mn (E3 (nv a).toNat:Nat)
theorem Mu {a:List Int} (d:Dg a) (t:Tm a) (hb:a.length<100000):aj Tryz.prog 156 [.ro false .i64 a] [] (.ro false .i64 (Nz a)) []:=by
 have h0:=ei d
 refine aj.cg (eu YC) 60 2 0 Tryz.func156 (by simp) rfl (fun s' x h=>?_) (s:=vK (Nz a)) (p:=true) (by kernel_rfl) rfl rfl rfl
 refine aG.items (eu YC) 60 1 _ 0 (by simp) (yA a) rfl (by decide) ?_
 exact aG.item 1 (by decide) (Tr.jt 0 (by kernel_rfl) (GK (nv a).toNat (by omega) d t hb)) h
noncomputable def QW (a:List Int):Bool:=@decide (Tm a) (Classical.propDecidable _)
noncomputable def Mv:List SV→Option (SV×List Blk×Bool)
 | [.ro false .i64 a]=>some (.ro false .i64 (Nz a),[],iH a&&QW a&&decide (a.length<100000))
 |_=>none
noncomputable def fe:Entry Tryz.prog:=.val 156 _ Tryz.func156 (by decide) rfl false 0 Mv fun vs v new e=>by
 unfold Mv at e
 split at e
 ·simp only [Option.some.injEq,Prod.mk.injEq,Bool.and_eq_true,decide_eq_true_eq,bF] at e
  obtain ⟨rfl,rfl,⟨h1,h2⟩,h3⟩:=e
  exact Mu h1 (@of_decide_eq_true _ (Classical.propDecidable _) h2) h3
 ·cases e
end Go.Proofs.YtibfpjeeanppjaaGreat.R4
end
