/- This file holds the texts R4E, R4F, a section each. No conditions beyond those in the theorems. -/
import Derived.Test.YtibfpjeeanppjaaGreatYR4D
set_option linter.all false
set_option maxRecDepth 100000
section
namespace Go.Proofs.YtibfpjeeanppjaaGreat.R4
open Go Go.Sy Sh
noncomputable def tiB:Code:=aE Tryz.f158
noncomputable def tiP:Code:=inner (inner (aA 3 tiB))
noncomputable def tiI:Code:=inner (aA 2 tiP)
noncomputable def tiQ:Code:=inner (inner (aA 2 tiI))
noncomputable def xP (a b:List Int) (m:Nat) (o:List Int) (i:Int):St:=⟨slotsOf 66 [(0,.ro false .i64 a),(1,.ro false .i64 b),(5,.sl 0 0 0 1 m m true true),(6,.int .i64 i)],[.b [.ints .i64 m o]],true⟩
noncomputable def Jp (a b:List Int) (m:Nat) (o:List Int) (i c j:Int):St:=⟨slotsOf 66 [(0,.ro false .i64 a),(1,.ro false .i64 b),(5,.sl 0 0 0 1 m m true true),(6,.int .i64 i),(7,.int .i64 c),(8,.int .i64 j)],[.b [.ints .i64 m o]],true⟩
def tiA (b:Bool):Nat→Option Bool:=fun i=>if i=20 then some b else none
def tjA:Nat→Option Bool:=fun i=>if i=26||i=44 then some true else none
def tjD:Nat→Option Bool:=fun i=>if i=29 then some true else if i=26||i=44 then some false else none
def tjE:Nat→Option Bool:=fun i=>if i=26||i=29 then some false else none
def ijO (ob:Bool) (i j:Int) (m:Nat):Bool:=aa (aa ob (cL (J (i+j)) m)) (decide (0+(J (i+j)).toNat<m))
def stO (ob:Bool) (i j:Int) (o:List Int) (m:Nat):Bool:=aa (aa ob (cL (J (i+j)) m)) (decide (0+(J (i+j)).toNat<m)&&decide (o.length=m))
def yg (a b:List Int):Int:=J (J ((a.length:Int)+b.length)+1)
def Wt (n:Int):Bool:=aa true (J n==n&&J n==n&&(decide (0≤n)&&decide (n≤n)&&decide ((8:Int)*n≤281474976710656)))
section
variable (a b o:List Int) (m:Nat) (i c j:Int)
theorem yY:(aW Tryz.prog (tg fun _=>none) 60 0 3 (atoms tiB) ⟨aO Tryz.f158.ntmps [.ro false .i64 a,.ro false .i64 b],[],true⟩).bind (St.cut [0,1,5,6] 1)=some {xP a b (yg a b).toNat (List.replicate (yg a b).toNat 0) 0 with ob:=Wt (yg a b)}:=by kernel_rfl
theorem akq:(aW Tryz.prog (tg (tiA true)) 60 0 2 (atoms tiP) (xP a b m o i)).bind (St.cut [0,1,5,6] 1)=some {xP a b m o i with ob:=aa true (decide (i<a.length))}:=by kernel_rfl
theorem akr:(aW Tryz.prog (tg fun _=>none) 60 0 2 (atoms tiI) (xP a b m o i)).bind (St.cut [0,1,5,6,7,8] 1)=some (Jp a b m o i 0 0):=by kernel_rfl
theorem aks:(exec Tryz.prog (tg fun _=>none) 60 0 (aA 3 tiP) (xP a b m o i)).bind (fun r=>(r.2.cut [0,1,5,6] 1).map fun q=>(r.1,q))=some (.normal,xP a b m o (J (i+1))):=by kernel_rfl
theorem aad:(exec Tryz.prog (tg (tiA false)) 60 0 tiP (xP a b m o i)).bind (fun r=>(r.2.cut [0,1,5,6] 1).map fun q=>(r.1,q))=some (.exit 0,{xP a b m o i with ob:=aa true (!decide (i<a.length))}):=by kernel_rfl
theorem akt:(exec Tryz.prog (tg tjA) 60 0 tiQ (Jp a b m o i c j)).bind (fun r=>(r.2.cut [0,1,5,6,7,8] 1).map fun q=>(r.1,q))=
  some (.normal,{Jp a b m (o.set (0+(J (i+j)).toNat) ((J (J (o.getD (0+(J (i+j)).toNat) 0+c)+J (a.getD i.toNat 0*b.getD j.toNat 0))).tmod 256)) i (J ((J (J (o.getD (0+(J (i+j)).toNat) 0+c)+J (a.getD i.toNat 0*b.getD j.toNat 0))).tdiv 256)) (J (j+1)) with
   ob:=stO (aa (aa (aa (aa (aa (ijO (aa true (decide (j<b.length))) i j m) (decide (j<b.length))) (cL i a.length)) (decide (i.toNat<a.length))) (cL j b.length)) (decide (j.toNat<b.length))) i j o m}):=by kernel_rfl
theorem aku:(exec Tryz.prog (tg tjD) 60 0 tiQ (Jp a b m o i c j)).bind (fun r=>(r.2.cut [0,1,5,6,7,8] 1).map fun q=>(r.1,q))=
  some (.normal,{Jp a b m (o.set (0+(J (i+j)).toNat) ((J (o.getD (0+(J (i+j)).toNat) 0+c)).tmod 256)) i (J ((J (o.getD (0+(J (i+j)).toNat) 0+c)).tdiv 256)) (J (j+1)) with
   ob:=stO (aa (ijO (aa (aa true (!decide (j<b.length))) (decide (c>0))) i j m) (!decide (j<b.length))) i j o m}):=by kernel_rfl
theorem aae:(exec Tryz.prog (tg tjE) 60 0 tiQ (Jp a b m o i c j)).bind (fun r=>(r.2.cut [0,1,5,6,7,8] 1).map fun q=>(r.1,q))=
  some (.exit 2,{Jp a b m o i c j with ob:=aa (aa true (!decide (j<b.length))) (!decide (c>0))}):=by kernel_rfl
end
theorem HI {ob:Bool} {i j:Nat} {m:Nat} (h1:ob=true) (h:i+j<m) (hm:m<10000000):ijO ob i j m=true:=by
 unfold ijO
 rw [h1,dy (by omega) (by omega),aK (by omega) (by omega),decide_eq_true (show 0+(((i:Int)+j)).toNat<m by omega)];rfl
theorem HJ {ob:Bool} {i j:Nat} {m:Nat} {o:List Int} (h1:ob=true) (h:i+j<m) (hm:m<10000000) (ho:o.length=m):stO ob i j o m=true:=by
 unfold stO
 rw [h1,dy (by omega) (by omega),aK (by omega) (by omega),decide_eq_true (show 0+(((i:Int)+j)).toNat<m by omega),decide_eq_true ho];rfl
theorem Jq {a b o:List Int} (da:Dg a) (db:Dg b) (d:Dg o) (ho:o.length=a.length+b.length+1) (ha:a.length<1000000) (hb:b.length<1000000) {i:Nat} (hi:i<a.length) (h0:(tR (a.getD i 0) b i o (r6 (a.getD i 0) b i o)).2=0):
  Tr Tryz.prog none 0 (aA 2 tiI) (Jp a b o.length o i 0 0) .normal (Jp a b o.length (tR (a.getD i 0) b i o (r6 (a.getD i 0) b i o)).1 i (tR (a.getD i 0) b i o (r6 (a.getD i 0) b i o)).2 (r6 (a.getD i 0) b i o:Nat)):=by
 have hn:=Oz (a.getD i 0) b i o
 have hx:=da.getD i
 have key:=Tr.loop (P:=Tryz.prog) (ro:=none) (k:=0) 2 (c:=aA 2 tiI) (by kernel_rfl) (fun j:Nat=>Jp a b o.length (tR (a.getD i 0) b i o j).1 i (tR (a.getD i 0) b i o j).2 j) (r6 (a.getD i 0) b i o)
  (s':=Jp a b o.length (tR (a.getD i 0) b i o (r6 (a.getD i 0) b i o)).1 i (tR (a.getD i 0) b i o (r6 (a.getD i 0) b i o)).2 (r6 (a.getD i 0) b i o:Nat)) (fun j hj=>?_) ?_
 ·exact key
 ·obtain ⟨t1,t2,t3,t4,_⟩:=Oy hx db d (show i+b.length<o.length by omega) j (by omega)
  have hs:(tR (a.getD i 0) b i o (j+1))=tS (a.getD i 0) b i j (tR (a.getD i 0) b i o j):=rfl
  have hq:∀q,r6 (a.getD i 0) b i o=q→j<q:=fun q e=>e▸hj
  show Tr _ _ _ _ (Jp a b o.length (tR (a.getD i 0) b i o j).1 i (tR (a.getD i 0) b i o j).2 j) _ (Jp a b o.length (tR (a.getD i 0) b i o (j+1)).1 i (tR (a.getD i 0) b i o (j+1)).2 ((j+1:Nat):Int))
  have hc:¬j<b.length→j=b.length∧0<(tR (a.getD i 0) b i o b.length).2:=fun h=>by
   unfold r6 at hj
   split at hj
   ·rename_i q;exact ⟨by omega,q⟩
   ·omega
  rw [hs]
  by_cases ib:j<b.length
  ·generalize tR (a.getD i 0) b i o j=s at*
   obtain ⟨l,c⟩:=s
   simp only at t1 t2 t3 t4
   have hy:=db.getD j
   have p0:0≤a.getD i 0*b.getD j 0:=Int.mul_nonneg hx.1 hy.1
   have p1:a.getD i 0*b.getD j 0≤255*255:=Int.mul_le_mul (by omega) (by omega) hy.1 (by decide)
   have hg:=t2.getD (i+j)
   have e:=akt a b l o.length i c j
   have hO:stO (aa (aa (aa (aa (aa (ijO (aa true (decide ((j:Int)<b.length))) i j o.length) (decide ((j:Int)<b.length))) (cL (i:Int) a.length)) (decide ((i:Int).toNat<a.length))) (cL (j:Int) b.length)) (decide ((j:Int).toNat<b.length))) i j l o.length=true:=by
    refine HJ ?_ (by omega) (by omega) t1
    rw [HI (by rw [decide_eq_true (show (j:Int)<b.length by omega)];rfl) (by omega) (by omega),decide_eq_true (show (j:Int)<b.length by omega),aK (by omega) (by omega),aK (by omega) (by omega),decide_eq_true (show (i:Int).toNat<a.length by omega),decide_eq_true (show (j:Int).toNat<b.length by omega)];rfl
   rw [hO] at e
   rw [Int.toNat_natCast,Int.toNat_natCast,dy (n:=(i:Int)+j) (by omega) (by omega),show 0+((i:Int)+j).toNat=i+j by omega,dy (n:=a.getD i 0*b.getD j 0) (by omega) (by omega),dy (n:=l.getD (i+j) 0+c) (by omega) (by omega),dy (n:=l.getD (i+j) 0+c+a.getD i 0*b.getD j 0) (by omega) (by omega),cY (by omega),eA (by omega),dy (n:=(l.getD (i+j) 0+c+a.getD i 0*b.getD j 0)/256) (by omega) (by omega),dy (n:=(j:Int)+1) (by omega) (by omega)] at e
   exact Tr.post (Tr.cut (cg _) 60 _ 1 (by omega) e rfl) (bq.same rfl rfl)
  ·obtain ⟨hjb,hpos⟩:=hc ib
   rw [←hjb] at hpos
   generalize tR (a.getD i 0) b i o j=s at*
   obtain ⟨l,c⟩:=s
   simp only at t1 t2 t3 t4 hpos
   have hg:=t2.getD (i+j)
   have hz:=lG (l:=b) (i:=j) (by omega)
   have e:=aku a b l o.length i c j
   have hO:stO (aa (ijO (aa (aa true (!decide ((j:Int)<b.length))) (decide (c>0))) i j o.length) (!decide ((j:Int)<b.length))) i j l o.length=true:=by
    refine HJ ?_ (by omega) (by omega) t1
    rw [decide_eq_false (show ¬(j:Int)<b.length by omega),decide_eq_true (show c>0 by omega),HI (ob:=aa (aa true (!false)) true) rfl (by omega) (by omega)];rfl
   rw [hO] at e
   rw [dy (n:=(i:Int)+j) (by omega) (by omega),show 0+((i:Int)+j).toNat=i+j by omega,dy (n:=l.getD (i+j) 0+c) (by omega) (by omega),cY (by omega),eA (by omega),dy (n:=(l.getD (i+j) 0+c)/256) (by omega) (by omega),dy (n:=(j:Int)+1) (by omega) (by omega)] at e
   have e2:tS (a.getD i 0) b i j (l,c)=(l.set (i+j) ((l.getD (i+j) 0+c)%256),(l.getD (i+j) 0+c)/256):=by unfold tS;simp only [hz,Int.mul_zero,Int.add_zero]
   rw [e2]
   exact Tr.post (Tr.cut (cg _) 60 _ 1 (by omega) e rfl) (bq.same rfl rfl)
 ·have e:=aae a b (tR (a.getD i 0) b i o (r6 (a.getD i 0) b i o)).1 o.length i (tR (a.getD i 0) b i o (r6 (a.getD i 0) b i o)).2 (r6 (a.getD i 0) b i o:Nat)
  rw [decide_eq_false (show ¬((r6 (a.getD i 0) b i o:Nat):Int)<b.length by omega),decide_eq_false (show ¬(tR (a.getD i 0) b i o (r6 (a.getD i 0) b i o)).2>0 by omega)] at e
  exact Tr.cut (cg _) 60 _ 1 (by omega) e rfl
theorem Fj {a b:List Int} (da:Dg a) (db:Dg b) (ha:a.length<1000000) (hb:b.length<1000000) {i:Nat} (hi:i<a.length):
  Tr Tryz.prog none 0 tiP (xP a b (a.length+b.length+1) (tO a b i) i) .normal (xP a b (a.length+b.length+1) (tO a b (i+1)) ((i+1:Nat):Int)):=by
 obtain ⟨h1,h2,h3⟩:=HB da db i (by omega)
 obtain ⟨_,_,h0,_⟩:=OA da db hi h1 h2 h3
 have hrow:=Jq da db h2 h1 ha hb hi h0
 rw [h1] at hrow
 have e:=akq a b (tO a b i) (a.length+b.length+1) i
 rw [decide_eq_true (show (i:Int)<a.length by omega)] at e
 have z:=aks a b (tO a b (i+1)) (a.length+b.length+1) i
 rw [dy (n:=(i:Int)+1) (by omega) (by omega)] at z
 have Jr:aA 2 tiP= .block 1 tiI:=by kernel_rfl
 refine Tr.ew (bf.items (cg _) 60 2 _ 1 (by omega) e rfl (by decide) ?_)
 refine bf.item 2 (by decide) (s1:=xP a b (a.length+b.length+1) (tO a b (i+1)) i) ?_ (bf.item 3 (by decide) (s1:=xP a b (a.length+b.length+1) (tO a b (i+1)) ((i+1:Nat):Int)) (Tr.cut (cg _) 60 _ 1 (by omega) z rfl) ⟨rfl,rfl⟩)
 rw [Jr]
 refine Tr.fN ?_ (by simp)
 refine Tr.ew (bf.items (cg _) 60 2 _ 1 (by omega) (akr a b (tO a b i) (a.length+b.length+1) i) rfl (by decide) ?_)
 refine bf.item 2 (by decide) (s1:=xP a b (a.length+b.length+1) (tO a b (i+1)) i) (Tr.post hrow ?_) ⟨rfl,rfl⟩
 exact bq.cut (n:=1) (live:=[0,1,5,6]) (by omega) (by kernel_rfl)
theorem vp {a b:List Int} (da:Dg a) (db:Dg b) (ha:a.length<1000000) (hb:b.length<1000000):
  ai Tryz.prog 158 [.ro false .i64 a,.ro false .i64 b] [] (.sl 0 0 0 1 (a.length+b.length+1) (a.length+b.length+1) true true) [.b [.ints .i64 (a.length+b.length+1) (uj a b)]]:=by
 have hM:yg a b=((a.length+b.length+1:Nat):Int):=by unfold yg;rw [dy (n:=(a.length:Int)+b.length) (by omega) (by omega),dy (by omega) (by omega)];omega
 have hh:=yY a b
 have ho:Wt (yg a b)=true:=by
  unfold Wt
  rw [hM,dy (by omega) (by omega),beq_self_eq_true,decide_eq_true (show (0:Int)≤((a.length+b.length+1:Nat):Int) by omega),decide_eq_true (Int.le_refl _),decide_eq_true (show (8:Int)*((a.length+b.length+1:Nat):Int)≤281474976710656 by omega)];rfl
 rw [ho,hM,Int.toNat_natCast] at hh
 have bY:Tr Tryz.prog none 0 (aA 3 tiB) (xP a b (a.length+b.length+1) (tO a b 0) 0) .normal (xP a b (a.length+b.length+1) (uj a b) a.length):=by
  have key:=Tr.loop (P:=Tryz.prog) (ro:=none) (k:=0) 0 (c:=aA 3 tiB) (by kernel_rfl) (fun i:Nat=>xP a b (a.length+b.length+1) (tO a b i) i) a.length (s':=xP a b (a.length+b.length+1) (uj a b) a.length) (fun i hi=>Fj da db ha hb hi) ?_
  ·exact key
  ·have e:=aad a b (tO a b a.length) (a.length+b.length+1) a.length
   rw [decide_eq_false (show ¬((a.length:Int)<a.length) by omega)] at e
   exact Tr.cut (cg _) 60 _ 1 (by omega) e rfl
 refine ai.cu (cg fun _=>none) 60 4 1 Tryz.func158 (by simp) rfl (fun s' x h=>?_) (s:=xP a b (a.length+b.length+1) (uj a b) a.length) (p:=true) (by kernel_rfl) rfl rfl rfl
 exact bf.items (cg fun _=>none) 60 3 _ 1 (by simp) hh rfl (by decide) (bf.item 3 (by decide) bY h)
def vq:List SV→Option (SV×List Blk×Bool)
 | [.ro false .i64 a,.ro false .i64 b]=>some (.ro true .i64 (uj a b),[],dK a&&dK b&&decide (a.length<1000000)&&decide (b.length<1000000))
 |_=>none
noncomputable def yZ:Entry Tryz.prog:=.val 158 _ Tryz.func158 (by decide) rfl true 0 vq fun vs v new e=>by
 unfold vq at e
 split at e
 ·rename_i a b
  simp only [Option.some.injEq,Prod.mk.injEq,Bool.and_eq_true,decide_eq_true_eq,aY] at e
  obtain ⟨rfl,rfl,⟨⟨h1,h2⟩,h3⟩,h4⟩:=e
  exact ai.frozen (N:=a.length+b.length+1) (ex:=true) (wh:=true) (vp h1 h2 h3 h4) (AS h1 h2)
 ·cases e
end Go.Proofs.YtibfpjeeanppjaaGreat.R4
end
section
namespace Go.Proofs.YtibfpjeeanppjaaGreat.R4
open Go Go.Sy Sh
theorem Fk:∀{l:List Int},Dg l→Tm l→l≠[]→(256:Int)^(l.length-1)≤nv l
 | [],_,_,h=>absurd rfl h
 | [x],d,t,_=>by
  have:=(Dg.cons.1 d).1
  have:x≠0:=t
  simp only [List.length_cons,List.length_nil,nv]
  omega
 |x::y::l,d,t,_=>by
  have ih:=Fk (l:=y::l) (Dg.cons.1 d).2 t (by simp)
  have hx:=(Dg.cons.1 d).1
  rw [nv]
  simp only [List.length_cons,Nat.add_sub_cancel] at ih ⊢
  rw [Int.pow_succ]
  omega
theorem aaf {a b:List Int} (da:Dg a) (db:Dg b) (t:Tm b) (h:nv b≤nv a):b.length≤a.length:=by
 by_cases q:b=[]
 ·rw [q];simp
 ·have h1:=Fk db t q
  have h2:=xz da
  apply Classical.byContradiction
  intro hn
  have:=lF (show a.length≤b.length-1 by omega)
  omega
noncomputable def smB:Code:=aE Tryz.f156
noncomputable def TH:Code:=inner (inner (aA 1 smB))
noncomputable def OK:Code:=inner (aA 2 TH)
noncomputable def smP:Code:=inner (inner (aA 3 OK))
noncomputable def Bf:Code:=inner (inner (aA 6 OK))
noncomputable def ya (f:Nat→Option Bool):bu:=mk (P:=Tryz.prog) [OI,yZ,V8] [] f
theorem dH (f:Nat→Option Bool):ag Tryz.prog (ya f):=ah _ au.nil _ _
noncomputable def xO (a:List Int):St:=⟨slotsOf 80 [(0,.ro false .i64 a)],[],true⟩
noncomputable def JW (a:List Int) (m:Nat) (l:List Int) (i:Int):St:=⟨slotsOf 80 [(0,.ro false .i64 a),(3,.sl 0 0 0 1 m m false true),(4,.nl (.slice none 0 0)),(5,.int .i64 i)],[.b [.ints .i64 m l]],true⟩
noncomputable def akv (a:List Int):St:=⟨slotsOf 80 [(0,.ro false .i64 a),(3,.nl (.slice none 0 0)),(4,.nl (.slice none 0 0)),(5,.int .i64 0)],[],true⟩
noncomputable def smK (a:List Int) (m:Nat) (l:List Int):St:=⟨slotsOf 80 [(0,.ro false .i64 a),(3,.sl 0 0 0 1 m m false true),(4,.nl (.slice none 0 0)),(6,.int .i64 16)],[.b [.ints .i64 m l]],true⟩
noncomputable def JX (a:List Int) (m:Nat) (l:List Int) (n:Nat) (h:List Int) (i:Int):St:=⟨slotsOf 80 [(0,.ro false .i64 a),(3,.sl 0 0 0 1 m m false true),(4,.sl 1 0 0 1 n n false true),(6,.int .i64 i)],[.b [.ints .i64 m l],.b [.ints .i64 n h]],true⟩
def Jg:Nat→Option Bool:=fun i=>if i=10 then some true else none
def VT:Nat→Option Bool:=fun i=>if i=10 then some false else if i=14||i=19 then some true else none
def sm3:Nat→Option Bool:=fun i=>if i=10||i=14 then some false else none
def sm4:Nat→Option Bool:=fun i=>if i=10||i=19 then some false else if i=14 then some true else none
def Di (ob:Bool) (a:List Int):Bool:=aa (aa ob (cL 16 a.length)) (decide (16<a.length))
def BH (l h:List Int) (m n:Nat):Bool:=aa (aa (aa true (aa (aa (decide (h.length=n)&&(decide (n≤n)&&true)) (decide (h.length=n))) (dK h&&true&&decide (h.length<1000000)&&true)))
 (aa (aa (decide (l.length=m)&&(decide (m≤m)&&true)) (decide (l.length=m))) (dK l&&dK (uj h [5])&&decide (l.length<1000000)&&decide ((uj h [5]).length<1000000)))) (aa true (decide ((je l (uj h [5])).length<1000000)))
section
variable (a l h:List Int) (m n:Nat) (i:Int)
theorem Ao:(aW Tryz.prog (ya Jg) 60 0 1 (atoms smB) ⟨aO Tryz.f156.ntmps [.ro false .i64 a],[],true⟩).bind (St.cut [0] 0)=some (xO a):=by kernel_rfl
theorem aag:(aW Tryz.prog (ya Jg) 60 0 2 (atoms TH) (xO a)).bind (St.cut [0] 0)=some {xO a with ob:=aa true (decide ((a.length:Int)>17))}:=by kernel_rfl
theorem aah:(aW Tryz.prog (ya VT) 60 0 2 (atoms TH) (xO a)).bind (St.cut [0] 0)=some {xO a with ob:=aa (Di (aa (aa true (!decide ((a.length:Int)>17))) ((a.length:Int)==17)) a) (decide (a.getD 16 0>3))}:=by kernel_rfl
theorem TI:(exec Tryz.prog (ya sm3) 60 0 TH (xO a)).bind (fun r=>(r.2.cut [0] 0).map fun q=>(r.1,q))=some (.exit 0,{xO a with ob:=aa (aa true (!decide ((a.length:Int)>17))) (!((a.length:Int)==17))}):=by kernel_rfl
theorem TJ:(exec Tryz.prog (ya sm4) 60 0 TH (xO a)).bind (fun r=>(r.2.cut [0] 0).map fun q=>(r.1,q))=some (.exit 0,{xO a with ob:=aa (Di (aa (aa true (!decide ((a.length:Int)>17))) ((a.length:Int)==17)) a) (!decide (a.getD 16 0>3))}):=by kernel_rfl
theorem akw:(aW Tryz.prog (ya Jg) 60 0 3 (atoms OK) (xO a)).bind (St.cut [0,3,4,5] 0)=some (akv a):=by kernel_rfl
theorem afS:(exec Tryz.prog (ya fun i=>if i=25||i=29||i=36 then some true else none) 60 0 smP (JW a m l i)).bind (fun r=>(r.2.cut [0,3,4,5] 1).map fun q=>(r.1,q))=
  some (.normal,{JW a (m+1) (l++[a.getD i.toNat 0]) (J (i+1)) with ob:=aa (aa (aa (aa (aa true (decide (i<a.length))) (decide (i<16))) (cL i a.length)) (decide (i.toNat<a.length))) (xN l.length m)}):=by kernel_rfl
theorem afT:(exec Tryz.prog (ya fun i=>if i=25 then some true else if i=29 then some false else none) 60 0 smP (JW a m l i)).bind (fun r=>(r.2.cut [0,3,4,5] 1).map fun q=>(r.1,q))=
  some (.normal,{JW a m l (J (i+1)) with ob:=aa (aa true (decide (i<a.length))) (!decide (i<16))}):=by kernel_rfl
theorem afU:(exec Tryz.prog (ya fun i=>if i=25 then some false else none) 60 0 smP (JW a m l i)).bind (fun r=>(r.2.cut [0,3,4,5] 1).map fun q=>(r.1,q))=
  some (.exit 2,{JW a m l i with ob:=aa true (!decide (i<a.length))}):=by kernel_rfl
theorem akx:(aW Tryz.prog (ya fun i=>if i=43 then some true else none) 60 0 2 ((atoms OK).drop 4) (JW a m l i)).bind (St.cut [0,3,4,6] 1)=
  some {smK a (m+1) (l++[(a.getD 16 0).tmod 4]) with ob:=aa (Di true a) (xN l.length m)}:=by kernel_rfl
theorem afV:(exec Tryz.prog (ya fun i=>if i=47||i=59||i=72 then some true else none) 60 0 Bf (JX a m l n h i)).bind (fun r=>(r.2.cut [0,3,4,6] 2).map fun q=>(r.1,q))=
  some (.normal,{JX a m l (n+1) (h++[J (J ((a.getD i.toNat 0).tdiv 4)+J ((a.getD (J (i+1)).toNat 0).tmod 4*64))]) (J (i+1)) with
   ob:=aa (aa (aa (aa (dO true i a.length) (decide (J (i+1)<a.length))) (cL (J (i+1)) a.length)) (decide ((J (i+1)).toNat<a.length))) (xN h.length n)}):=by kernel_rfl
theorem afW:(exec Tryz.prog (ya fun i=>if i=47||i=72 then some true else if i=59 then some false else none) 60 0 Bf (JX a m l n h i)).bind (fun r=>(r.2.cut [0,3,4,6] 2).map fun q=>(r.1,q))=
  some (.normal,{JX a m l (n+1) (h++[J ((a.getD i.toNat 0).tdiv 4)]) (J (i+1)) with ob:=aa (aa (dO true i a.length) (!decide (J (i+1)<a.length))) (xN h.length n)}):=by kernel_rfl
theorem afX:(exec Tryz.prog (ya fun i=>if i=47 then some false else none) 60 0 Bf (JX a m l n h i)).bind (fun r=>(r.2.cut [0,3,4,6] 2).map fun q=>(r.1,q))=
  some (.exit 4,{JX a m l n h i with ob:=aa true (!decide (i<a.length))}):=by kernel_rfl
theorem aky:(exec Tryz.prog (ya Jg) 60 0 (aA 7 OK) (JX a m l n h i)).bind (fun r=>(r.2.cut [0] 0).map fun q=>(r.1,q))=
  some (.normal,{xO (m8 (je l (uj h [5]))) with ob:=BH l h m n}):=by kernel_rfl
end
theorem tr {ob:Bool} {a:List Int} (h1:ob=true) (h:16<a.length):Di ob a=true:=by
 unfold Di
 rw [h1,aK (by omega) (by omega),decide_eq_true h];rfl
theorem aai {a:List Int} (ha:16<a.length) (hb:a.length<100000):Tr Tryz.prog none 0 (aA 3 OK) (JW a 0 [] 0) .normal (JW a 16 (a.take 16) a.length):=by
 have key:=Tr.loop (P:=Tryz.prog) (ro:=none) (k:=0) 2 (c:=aA 3 OK) (by kernel_rfl) (fun j:Nat=>JW a (min j 16) (a.take (min j 16)) j) a.length (s':=JW a 16 (a.take 16) a.length) (fun j hj=>?_) ?_
 ·exact key
 ·show Tr _ _ _ smP _ _ _
  have hJ:J ((j:Int)+1)=((j+1:Nat):Int):=by rw [dy (by omega) (by omega)];rfl
  by_cases q:j<16
  ·have e:=afS a (a.take j) j j
   have hl:(a.take j).length=j:=by rw [List.length_take];omega
   rw [hl,hJ,Int.toNat_natCast, ←xC hj,cG (by omega),decide_eq_true (show (j:Int)<a.length by omega),decide_eq_true (show (j:Int)<16 by omega),aK (by omega) (by omega),decide_eq_true hj] at e
   rw [Nat.min_eq_left (show j≤16 by omega),Nat.min_eq_left (show j+1≤16 by omega)]
   exact Tr.post (Tr.cut (dH _) 60 _ 1 (by omega) e rfl) (bq.same rfl rfl)
  ·have e:=afT a (a.take 16) 16 j
   rw [hJ,decide_eq_true (show (j:Int)<a.length by omega),decide_eq_false (show ¬(j:Int)<16 by omega)] at e
   rw [Nat.min_eq_right (show 16≤j by omega),Nat.min_eq_right (show 16≤j+1 by omega)]
   exact Tr.post (Tr.cut (dH _) 60 _ 1 (by omega) e rfl) (bq.same rfl rfl)
 ·show Tr _ _ _ smP _ _ _
  have e:=afU a (a.take 16) 16 a.length
  rw [decide_eq_false (show ¬(a.length:Int)<a.length by omega)] at e
  rw [Nat.min_eq_right (show 16≤a.length by omega)]
  exact Tr.cut (dH _) 60 _ 1 (by omega) e rfl
theorem TK {a l:List Int} {m:Nat} (d:Dg a) (ha:16<a.length) (hb:a.length<100000):Tr Tryz.prog none 0 (aA 6 OK) (JX a m l 0 [] 16) .normal (JX a m l (a.length-16) (qw a) a.length):=by
 have key:=Tr.loop (P:=Tryz.prog) (ro:=none) (k:=0) 4 (c:=aA 6 OK) (by kernel_rfl) (fun j:Nat=>JX a m l j ((List.range j).map (OC a)) ((16+j:Nat):Int)) (a.length-16) (s':=JX a m l (a.length-16) (qw a) a.length) (fun j hj=>?_) ?_
 ·exact key
 ·show Tr _ _ _ Bf _ _ _
  have hJ:J (((16+j:Nat):Int)+1)=((16+(j+1):Nat):Int):=by rw [dy (by omega) (by omega)];rfl
  have hl:((List.range j).map (OC a)).length=j:=by simp
  have h1:=d.getD (16+j)
  have h2:=d.getD (17+j)
  have hr:(List.range (j+1)).map (OC a)=(List.range j).map (OC a)++[OC a j]:=by rw [List.range_succ,List.map_append];rfl
  rw [hr]
  by_cases q:17+j<a.length
  ·have e:=afV a l ((List.range j).map (OC a)) m j ((16+j:Nat):Int)
   rw [hl,hJ,mI rfl (by omega),cG (by omega),aK (by omega) (by omega),decide_eq_true (show ((16+(j+1):Nat):Int)<a.length by omega),Int.toNat_natCast,Int.toNat_natCast,show 16+(j+1)=17+j by omega,eA h1.1,cY h2.1,decide_eq_true q,dy (n:=a.getD (16+j) 0/4) (by omega) (by omega),dy (n:=a.getD (17+j) 0%4*64) (by omega) (by omega),dy (n:=a.getD (16+j) 0/4+a.getD (17+j) 0%4*64) (by omega) (by omega)] at e
   rw [show 16+(j+1)=17+j by omega]
   exact Tr.post (Tr.cut (dH _) 60 _ 2 (by omega) e rfl) (bq.same rfl rfl)
  ·have e:=afW a l ((List.range j).map (OC a)) m j ((16+j:Nat):Int)
   have z:=lG (l:=a) (i:=17+j) (by omega)
   have hf:OC a j=a.getD (16+j) 0/4:=by unfold OC;rw [z];rw [show (0:Int)%4*64=0 from rfl,Int.add_zero]
   rw [hl,hJ,mI rfl (by omega),cG (by omega),decide_eq_false (show ¬((16+(j+1):Nat):Int)<a.length by omega),Int.toNat_natCast,eA h1.1,dy (n:=a.getD (16+j) 0/4) (by omega) (by omega)] at e
   rw [hf]
   exact Tr.post (Tr.cut (dH _) 60 _ 2 (by omega) e rfl) (bq.same rfl rfl)
 ·show Tr _ _ _ Bf _ _ _
  have e:=afX a l (qw a) m (a.length-16) a.length
  rw [decide_eq_false (show ¬(a.length:Int)<a.length by omega)] at e
  rw [show 16+(a.length-16)=a.length by omega]
  exact Tr.cut (dH _) 60 _ 2 (by omega) e rfl
theorem xl {a:List Int} (d:Dg a) (t:Tm a) (hg:V4 a=true) (hb:a.length<100000):Tr Tryz.prog none 0 TH (xO a) .normal (xO (x9 a)):=by
 have Ap:16<a.length:=by
  unfold V4 at hg
  simp only [Bool.or_eq_true,decide_eq_true_eq] at hg
  omega
 obtain ⟨l1,l2,_,_⟩:=V5 d Ap
 have g16:=d.getD 16
 have Jr:aA 2 TH= .block 1 OK:=by kernel_rfl
 have hll:(OB a).length=17:=by unfold OB;rw [List.length_append,List.length_take,Nat.min_eq_left (by omega)];rfl
 have hhl:(qw a).length=a.length-16:=by simp [qw]
 have htl:(uj (qw a) [5]).length=a.length-16+1+1:=by rw [AS l2 d5,hhl];rfl
 have body:Tr Tryz.prog none 0 OK (xO a) .normal (xO (x9 a)):=by
  refine Tr.ew (bf.items (dH _) 60 3 _ 0 (by omega) (akw a) rfl (by decide) ?_)
  refine bf.pre (s1:=JW a 0 [] 0) (bf.item 3 (by decide) (aai Ap hb) ?_) ((bq.nothing 3 .i64 false true rfl).trans (bq.same rfl rfl)) (by decide)
  have k:=akx a (a.take 16) 16 a.length
  rw [tr rfl Ap,List.length_take,Nat.min_eq_left (by omega),cG (by omega),cY g16.1] at k
  refine bf.items (dH _) 60 2 _ 1 (by omega) k rfl (by decide) ?_
  rw [List.drop_drop]
  refine bf.pre (s1:=JX a 17 (OB a) 0 [] 16) (bf.item 6 (by decide) (TK d Ap hb) ?_) ((bq.nothing 4 .i64 false true rfl).trans (bq.same rfl rfl)) (by decide)
  have r:=aky a (OB a) (qw a) 17 (a.length-16) a.length
  have ho:BH (OB a) (qw a) 17 (a.length-16)=true:=by
   unfold BH
   rw [hll,hhl,aY.2 l1,aY.2 l2,aY.2 (AR l2 d5).1,htl,j7]
   have:=ql (OB a) (uj (qw a) [5])
   have hpm:AQ (OB a) (uj (qw a) [5])=max 17 (a.length-16+1+1):=by unfold AQ;rw [hll,htl]
   simp [av]
   omega
  rw [ho] at r
  exact bf.item 7 (by decide) (s1:=xO (x9 a)) (Tr.cut (dH _) 60 _ 0 (by omega) r rfl) ⟨rfl,rfl⟩
 have e:bf Tryz.prog none 0 ((atoms TH).drop 2) (xO a) .normal (xO (x9 a)):=by
  refine bf.item 2 (by decide) (s1:=xO (x9 a)) ?_ ⟨rfl,rfl⟩
  rw [Jr]
  exact Tr.fN body (by simp)
 by_cases q:17<a.length
 ·have i1:=aag a
  rw [decide_eq_true (show (a.length:Int)>17 by omega)] at i1
  exact Tr.ew (bf.items (dH _) 60 2 _ 0 (by omega) i1 rfl (by decide) e)
 ·have h17:a.length=17∧3<a.getD 16 0:=by
   unfold V4 at hg
   simp only [Bool.or_eq_true,decide_eq_true_eq] at hg
   omega
  have i2:=aah a
  rw [decide_eq_true (show a.getD 16 0>3 from h17.2),tr (by rw [h17.1];rfl) Ap] at i2
  exact Tr.ew (bf.items (dH _) 60 2 _ 0 (by omega) i2 rfl (by decide) e)
theorem Js:∀(v:Nat) {a:List Int},nv a=v→Dg a→Tm a→a.length<100000→iR Tryz.prog none 0 TH (xO a) (.exit 0) (xO (OE (HF v:Nat))):=fun v=>by
 induction v using Nat.strongRecOn with
 |ind v ih=>
  intro a hv d t hb
  cases hg:V4 a with
  |true=>
   have xV:=(HE d t).1 hg
   have Ap:16<a.length:=by
    unfold V4 at hg
    simp only [Bool.or_eq_true,decide_eq_true_eq] at hg
    omega
   obtain ⟨s1,s2,s3⟩:=Z8 d Ap
   have hs:nv (x9 a)=((v%1361129467683753853853498429727072845824+5*(v/1361129467683753853853498429727072845824):Nat):Int):=by rw [s3,hv];omega
   have hlt:v%1361129467683753853853498429727072845824+5*(v/1361129467683753853853498429727072845824)<v:=by omega
   rw [HF,dif_neg (by omega)]
   exact iR.step (xl d t hg hb) (ih _ hlt hs s1 s2 (by have:=aaf d s1 s2 (by omega);omega))
  |false=>
   have xV:¬1361129467683753853853498429727072845824≤nv a:=fun q=>by
    have:=(HE d t).2 q
    rw [hg] at this
    cases this
   rw [HF,dif_pos (by omega), ←hv,OF d t]
   unfold V4 at hg
   rw [Bool.or_eq_false_iff,decide_eq_false_iff_not,decide_eq_false_iff_not] at hg
   by_cases q:a.length=17
   ·have e:=TJ a
    rw [decide_eq_false (show ¬a.getD 16 0>3 by omega),tr (by rw [q];rfl) (by omega)] at e
    exact iR.leave (Tr.cut (k:=0) (dH _) 60 _ 0 (Nat.le_refl _) e rfl) (by simp)
   ·have e:=TI a
    rw [decide_eq_false (show ¬(a.length:Int)>17 by omega),beq_false_of_ne (show (a.length:Int)≠17 by omega)] at e
    exact iR.leave (Tr.cut (k:=0) (dH _) 60 _ 0 (Nat.le_refl _) e rfl) (by simp)
noncomputable def P7 (a:List Int):List Int:=OE (HF (nv a).toNat:Nat)
theorem OM {a:List Int} (d:Dg a) (t:Tm a) (hb:a.length<100000):ai Tryz.prog 156 [.ro false .i64 a] [] (.ro false .i64 (P7 a)) []:=by
 have h0:=eD d
 refine ai.cu (dH Jg) 60 2 0 Tryz.func156 (by simp) rfl (fun s' x h=>?_) (s:=xO (P7 a)) (p:=true) (by kernel_rfl) rfl rfl rfl
 refine bf.items (dH Jg) 60 1 _ 0 (by simp) (Ao a) rfl (by decide) ?_
 exact bf.item 1 (by decide) (Tr.Bk 0 (by kernel_rfl) (Js (nv a).toNat (by omega) d t hb)) h
noncomputable def TL (a:List Int):Bool:=@decide (Tm a) (Classical.propDecidable _)
noncomputable def ON:List SV→Option (SV×List Blk×Bool)
 | [.ro false .i64 a]=>some (.ro false .i64 (P7 a),[],dK a&&TL a&&decide (a.length<100000))
 |_=>none
noncomputable def fC:Entry Tryz.prog:=.val 156 _ Tryz.func156 (by decide) rfl false 0 ON fun vs v new e=>by
 unfold ON at e
 split at e
 ·simp only [Option.some.injEq,Prod.mk.injEq,Bool.and_eq_true,decide_eq_true_eq,aY] at e
  obtain ⟨rfl,rfl,⟨h1,h2⟩,h3⟩:=e
  exact OM h1 (@of_decide_eq_true _ (Classical.propDecidable _) h2) h3
 ·cases e
end Go.Proofs.YtibfpjeeanppjaaGreat.R4
end
