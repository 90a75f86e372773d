/- This file holds the texts AeD, AeE, AeF, a section each. No conditions beyond those in the theorems. -/
import Derived.Test.YtibfpjeeanppjaaGreatUAeC
import Derived.Test.YtibfpjeeanppjaaGreatUShI
import Derived.Test.YtibfpjeeanppjaaGreatUCcB
set_option linter.all false
set_option maxRecDepth 100000
section
namespace Go.Proofs.YtibfpjeeanppjaaGreat.Ae
open Go Go.Sy Sh
noncomputable def Dj (a:Bool):bK:=mk (P:=Tryz.prog) [NJ,Sh.js,Sh.xh,tC,YQ] [] fun i=>if i=9 then some a else none
theorem gA (a:Bool):ag Tryz.prog (Dj a):=ai _ aF.nil _ _
noncomputable def YR:bK:=mk (P:=Tryz.prog) [NJ,Sh.js,Sh.xh,tC,YQ] []
theorem Dk:ag Tryz.prog YR:=ai _ aF.nil _ _
noncomputable def Bt:Code:=aH Tryz.f115
noncomputable def maR:Code:=ak 3 Bt
def k8 (key:List Int):List Int:=(key.drop 8).take 24
def sw (key:List Int):Int:=bR .u64 (dh key) 1152921487695413247
def sx (key:List Int):Int:=bR .u64 (dh (k8 key)) 1152921487695413244
noncomputable def rL:List (Option SV):=slotsOf 25 [(2,.ptr 0 0 0),(4,.ptr 1 0 0),(5,.ptr 3 0 0),(17,.fn (.func 164) [] [.ptr 4 0 0,.ptr 5 0 0])]
noncomputable def maK (key p h:List Int) (r s:Int):List Blk:=[.b [.ints .u8 32 key],.b [.ints .u8 16 (List.replicate 16 0)],su h r s,.b [.ptr 2 0 0],.b [.ro false .u8 p],.b [.int .i64 16]]
noncomputable def maH (key p h:List Int) (r s:Int) (l:Nat):List Blk:=[.b [.ints .u8 32 key],.b [.ints .u8 16 (List.replicate 16 0)],su h r s,.b [.ptr 2 0 0],.b [.ro false .u8 p],.b [.int .i64 16],.g (some (Dl maR rL l))]
noncomputable def Bu (key p h:List Int) (r s:Int) (l:Nat) (i:Int):St:=⟨slotsOf 31 [(0,.fn (.yield l) [] []),(1,.ptr 4 0 0),(2,.ptr 5 0 0),(4,.int .i64 i)],maH key p h r s l,true⟩
def vO (p:List Int) (i:Int):Int:=IntKind.i64.wrap (i+if ((p.drop i.toNat).length:Int)<16 then ((p.drop i.toNat).length:Int) else 16)
def G5 (p:List Int) (i:Int):List Int:=(p.drop i.toNat).take ((vO p i).toNat-i.toNat)
def TN (p h:List Int) (i:Int) (l:Nat):Bool:=
 aa (aa (aa (aa true (decide (i<p.length))) (aa true (aa true (decide (0≤i)&&decide (i≤p.length)))))
  (aa (decide (0≤vO p i)&&decide (vO p i≤p.length)) (aa (decide (0≤vO p i)&&decide (vO p i≤(vO p i).toNat)) (decide (0≤i)&&decide (i≤(vO p i).toNat)))))
  (aa (aa (aa (decide (l=l)) (decide (l=l))) (aa true (decide (h.length=3)&&Fe.u64 (g h 0)&&decide ((G5 p i).length≤16)))) (decide (l=l)))
section
variable (key p h:List Int) (r s:Int) (l:Nat) (i:Int)
theorem Bv:(exec Tryz.prog (Dj true) 60 7 (inner (inner (ak 1 Nk))) (Bu key p h r s l i)).bind (fun r=>(r.2.cut [0,1,2,4] 7).map fun q=>(r.1,q))=
  some (.normal,{Bu key p (nO h (G5 p i) r s) r s l (IntKind.i64.wrap (i+16)) with ob:=TN p h i l}):=by kernel_rfl
theorem Bw:(exec Tryz.prog (Dj false) 60 7 (inner (inner (ak 1 Nk))) (Bu key p h r s l i)).bind (fun r=>(r.2.cut [0,1,2,4] 7).map fun q=>(r.1,q))=
  some (.exit 0,{Bu key p h r s l i with ob:=aa true (!decide (i<p.length))}):=by kernel_rfl
theorem tE:(az Tryz.prog (Dj true) 60 7 1 (atoms Nk) ⟨aT Tryz.f164.ntmps [.fn (.yield l) [] [],.ptr 4 0 0,.ptr 5 0 0],maH key p h r s l,true⟩).bind (St.cut [0,1,2,4] 7)=some (Bu key p h r s l 0):=by kernel_rfl
def maO (key:List Int) (xss:List (List Int)):Bool:=aa (aa (aa true (aa (aa (decide (key.length=32)&&true) (decide (key.length=32))) (decide (8≤key.length)))) (aa (aa (true&&decide (32≤key.length)) (decide ((k8 key).length=24))) (decide (8≤(k8 key).length)))) (aa true (decide (xss.flatten.length≤274877906944)&&decide (xss.length≤274877906944)))
theorem xj (xss:List (List Int)):(az Tryz.prog YR 60 0 3 (atoms Bt) ⟨aT Tryz.f115.ntmps [.agg [.ints .u8 32 key],.hU false xss],[],true⟩).bind (St.cut [2,4,5,17] 6)=
  some ⟨rL,maK key xss.flatten [0,0,0] (sw key) (sx key),maO key xss⟩:=by kernel_rfl
end
noncomputable def hN (p:List Int) (r s:Int):Nat→List Int
 |0=>[0,0,0]
 |j+1=>nO (hN p r s j) ((p.drop (16*j)).take 16) r s
theorem TO (p:List Int) (r s:Int):∀j,(hN p r s j).length=3∧∀i,R (g (hN p r s j) i)
 |0=>⟨rfl,fun i=>by
   match i with
   |0=>exact eC
   |1=>exact eC
   |2=>exact eC
   |n+3=>exact eC⟩
 |_+1=>TJ _ _ _ _
theorem HB {p h:List Int} (hl:h.length=3) (h0:R (g h 0)) {j:Nat} (hj:16*j<p.length) (hb:p.length<274877906945) (l:Nat):G5 p (16*j:Nat)=(p.drop (16*j)).take 16∧TN p h (16*j:Nat) l=true:=by
 have hd:(p.drop (16*j)).length=p.length-16*j:=List.length_drop ..
 have he:vO p (16*j:Nat)=((16*j+min 16 (p.length-16*j):Nat):Int):=by
  unfold vO
  rw [Int.toNat_natCast,hd]
  split
  ·rw [wrap_i64 _ (by omega) (by omega)];omega
  ·rw [wrap_i64 _ (by omega) (by omega)];omega
 have hw:G5 p (16*j:Nat)=(p.drop (16*j)).take 16:=by
  unfold G5
  rw [he,Int.toNat_natCast,Int.toNat_natCast,Nat.add_sub_cancel_left]
  by_cases hc:16≤p.length-16*j
  ·rw [Nat.min_eq_left hc]
  ·rw [Nat.min_eq_right (by omega),List.take_of_length_le (by omega),List.take_of_length_le (by omega)]
 refine ⟨hw,?_⟩
 have hlw:((p.drop (16*j)).take 16).length≤16:=by rw [List.length_take];omega
 unfold TN
 rw [hw,he,hl,Fe.jr.2 h0,decide_eq_true hlw]
 simp only [au,Bool.and_eq_true,decide_eq_true_eq,true_and,and_true,Int.toNat_natCast]
 omega
theorem NQ (key:List Int) {p:List Int} (hb:p.length<274877906945) (r s:Int) (l:Nat):
  aj Tryz.prog 164 [.fn (.yield l) [] [],.ptr 4 0 0,.ptr 5 0 0] (maH key p [0,0,0] r s l) (.bk []) (maH key p (hN p r s ((p.length+15)/16)) r s l):=by
 have bS:Tr Tryz.prog none 7 (ak 1 Nk) (Bu key p [0,0,0] r s l 0) .normal (Bu key p (hN p r s ((p.length+15)/16)) r s l (16*((p.length+15)/16):Nat)):=by
  have jS:=Tr.loop (P:=Tryz.prog) (ro:=none) (k:=7) 0 (c:=ak 1 Nk) (by kernel_rfl) (fun j:Nat=>Bu key p (hN p r s j) r s l (16*j:Nat)) ((p.length+15)/16) (s':=Bu key p (hN p r s ((p.length+15)/16)) r s l (16*((p.length+15)/16):Nat)) (fun j hj=>?_) ?_
  ·exact jS
  ·obtain ⟨a1,a2⟩:=TO p r s j
   obtain ⟨h1,h2⟩:=HB a1 (a2 0) (p:=p) (j:=j) (by omega) hb l
   have k:=Bv key p (hN p r s j) r s l (16*j:Nat)
   rw [h1,h2,wrap_i64 _ (by omega) (by omega)] at k
   refine Tr.post (Tr.cut (gA true) 60 _ 7 (by omega) k rfl) (aU.same ?_ rfl)
   show (Bu key p [] r s l _).t=(Bu key p [] r s l _).t
   rw [show ((16*j:Nat):Int)+16=((16*(j+1):Nat):Int) by omega]
  ·have k:=Bw key p (hN p r s ((p.length+15)/16)) r s l (16*((p.length+15)/16):Nat)
   exact Tr.post (Tr.cut (gA false) 60 _ 7 (by omega) k (by rw [decide_eq_false (by omega)];rfl)) (aU.same rfl rfl)
 refine aj.mk (vs:=[]) Tryz.func164 rfl (x:=.normal) (s:=Bu key p (hN p r s ((p.length+15)/16)) r s l (16*((p.length+15)/16):Nat)) ?_ (.inr rfl) (by kernel_rfl)
 refine aG.items (gA true) 60 1 _ 7 (by show 7≤7;omega) (tE key p _ r s l) rfl (by decide) ?_
 exact aG.item 1 (by decide) bS ⟨rfl,rfl⟩
noncomputable def gn (key xs:List Int):List Int:=gz (HA (hN xs (sw key) (sx key) ((xs.length+15)/16)) key)
theorem FD (key xs:List Int):(gn key xs).length=16:=by rw [gn,aq];rfl
theorem NR {key:List Int} {xss:List (List Int)} (hk:key.length=32) (h1:xss.flatten.length≤274877906944) (h2:xss.length≤274877906944):aj Tryz.prog 115 [.agg [.ints .u8 32 key],.hU false xss] [] (.agg [.ints .u8 16 (gn key xss.flatten)]) []:=by
 obtain ⟨a1,a2⟩:=TO xss.flatten (sw key) (sx key) ((xss.flatten.length+15)/16)
 have ho:maO key xss=true:=by
  unfold maO k8
  rw [decide_eq_true h1,decide_eq_true h2]
  simp [hk,aa]
 rw [gn,aq]
 generalize hH:hN xss.flatten (sw key) (sx key) ((xss.flatten.length+15)/16)=H at a1 a2
 refine aj.cg Dk 60 4 0 Tryz.func115 (by simp) rfl (fun s' x h=>?_) (s:=⟨rL,maK key xss.flatten H (sw key) (sx key)++[.gap],true⟩)
  (p:=aa true (aa true (decide (H.length=3)&&Fe.u64 (g H 0)&&Fe.u64 (g H 1)&&Fe.u64 (g H 2)&&decide (key.length=32)))) (by kernel_rfl) (by rw [a1,hk,Fe.jr.2 (a2 0),Fe.jr.2 (a2 1),Fe.jr.2 (a2 2)];rfl) rfl rfl
 refine aG.items Dk 60 3 _ 6 (by simp) (xj key xss) ho (by decide) ?_
 refine aG.item 3 (by decide) ?_ h
 rw [←hH]
 exact Tr.xk 0 (by kernel_rfl) (f:=164) (first:=[]) (jX:=[.ptr 4 0 0,.ptr 5 0 0]) true Tryz.func164 (by decide) rfl (by kernel_rfl) (fun l=>NQ key (by omega) (sw key) (sx key) l)
  (fun l=>⟨_,rfl,rfl,by simp [Dl],rfl⟩) (fun l=>rfl)
noncomputable def RK:List SV→Option (SV×List Blk×Bool)
 | [.agg [.ints .u8 32 key],.hU false xss]=>some (.agg [.ints .u8 16 (gn key xss.flatten)],[],decide (key.length=32)&&decide (xss.flatten.length≤274877906944)&&decide (xss.length≤274877906944))
 |_=>none
noncomputable def YS:Entry Tryz.prog:=.val 115 _ Tryz.func115 (by decide) rfl true 0 RK fun vs v new e=>by
 unfold RK at e
 split at e
 ·simp only [Option.some.injEq,Prod.mk.injEq,Bool.and_eq_true,decide_eq_true_eq] at e
  obtain ⟨rfl,rfl,⟨h0,h1⟩,h2⟩:=e
  exact NR h0 h1 h2
 ·cases e
def ju (n:Int):Nat:=((16-n%16)%16).toNat
def Dm (n:Int):Int:=(IntKind.i64.wrap (16-n.tmod 16)).tmod 16
theorem oA {n:Int} (h:0≤n):Dm n=(ju n:Int)∧ju n<16:=by
 unfold Dm ju
 rw [Int.tmod_eq_emod_of_nonneg h,wrap_i64 _ (by omega) (by omega),Int.tmod_eq_emod_of_nonneg (by omega)]
 omega
noncomputable def flC:bK:=mk (P:=Tryz.prog) [] []
theorem TP:ag Tryz.prog flC:=ai _ aF.nil _ _
theorem HC (n:Int):bE Tryz.prog flC 60 Tryz.f116 [.int .i64 n] []=some (.sl 0 0 0 1 (Dm n).toNat (Dm n).toNat true true,[.b [.ints .u8 (Dm n).toNat (List.replicate (Dm n).toNat 0)]],
  aa true (IntKind.i64.wrap (Dm n)==Dm n&&IntKind.i64.wrap (Dm n)==Dm n&&(decide (0≤Dm n)&&decide (Dm n≤Dm n)&&decide ((1:Int)*Dm n≤281474976710656)))):=by kernel_rfl
theorem NS {n:Int} (h:0≤n):aj Tryz.prog 116 [.int .i64 n] [] (.ro true .u8 (List.replicate (ju n) 0)) []:=by
 obtain ⟨e,hb⟩:=oA h
 have k:=HC n
 rw [e,wrap_i64 _ (by omega) (by omega),beq_self_eq_true,decide_eq_true (show (0:Int)≤ju n by omega),decide_eq_true (show (1:Int)*ju n≤281474976710656 by omega),decide_eq_true (Int.le_refl _),Int.toNat_natCast] at k
 exact aj.frozen (aj.dU TP Tryz.func116 k) (by simp)
def RL:List SV→Option (SV×List Blk×Bool)
 | [.int .i64 n]=>some (.ro true .u8 (List.replicate (ju n) 0),[],decide (0≤n))
 |_=>none
noncomputable def YT:Entry Tryz.prog:=.val 116 _ Tryz.func116 (by decide) rfl false 0 RL fun vs v new e=>by
 unfold RL at e
 split at e
 ·simp only [Option.some.injEq,Prod.mk.injEq,decide_eq_true_eq] at e
  obtain ⟨rfl,rfl,h⟩:=e
  exact NS h
 ·cases e
end Go.Proofs.YtibfpjeeanppjaaGreat.Ae
end
section
namespace Go.Proofs.YtibfpjeeanppjaaGreat.Ae
open Go Go.Sy Sh
noncomputable def mkC:bK:=mk (P:=Tryz.prog) [Cc.pcE,Ty,YT,YS] []
theorem TQ:ag Tryz.prog mkC:=ai _ aF.nil _ _
noncomputable def zj (ctx mixed:List Int):List (List Int):=[ctx,List.replicate (ju (ctx.length:Int)) 0,mixed,List.replicate (ju (mixed.length:Int)) 0,dS (W (ctx.length:Int)),dS (W (mixed.length:Int))]
noncomputable def sy (key af ctx mixed:List Int):List Int:=gn ((Cc.eA key af 0).take 32) (zj ctx mixed).flatten
theorem sS (key af ctx mixed:List Int):(sy key af ctx mixed).length=16:=FD _ _
theorem NT (ctx mixed:List Int):(zj ctx mixed).flatten.length≤ctx.length+mixed.length+48:=by
 have h1:=(oA (n:=(ctx.length:Int)) (by omega)).2
 have h2:=(oA (n:=(mixed.length:Int)) (by omega)).2
 have h3:∀n,(dS n).length=8:=fun n=>by simp [dS]
 unfold zj
 simp only [List.flatten_cons,List.flatten_nil,List.length_append,List.length_replicate,h3,List.length_nil]
 omega
theorem HD {key af ctx mixed:List Int} (hn:af.length=12) (h1:ctx.length+mixed.length≤274877906000):
  aj Tryz.prog 72 [.agg [.ints .u8 32 key],.ro false .u8 af,.ro false .u8 ctx,.ro false .u8 mixed] [] (.bk [.ro true .u8 (sy key af ctx mixed),.nl .nilIface]) []:=by
 have ht:=NT ctx mixed
 have k:=dF TQ 60 Tryz.func72 (args:=[.agg [.ints .u8 32 key],.ro false .u8 af,.ro false .u8 ctx,.ro false .u8 mixed]) (h:=[]) 4 (by simp) (v:=.bk [.sl 3 0 0 1 16 16 true true,.nl .nilIface])
  (h1:=[.b [.ints .u8 32 key],.b [.ints .u8 64 (Cc.eA key af 0)],.b [.ro false .u8 ctx,.ro true .u8 (List.replicate (ju (ctx.length:Int)) 0),.ro false .u8 mixed,.ro true .u8 (List.replicate (ju (mixed.length:Int)) 0),.ro true .u8 (dS (W (ctx.length:Int))),.ro true .u8 (dS (W (mixed.length:Int)))],.b [.ints .u8 16 (sy key af ctx mixed)]])
  (p:=aa (aa true (aa true (decide (af.length=12)&&true&&true))) (aa true (decide (((Cc.eA key af 0).take 32).length=32)&&decide ((zj ctx mixed).flatten.length≤274877906944)&&true))) (by kernel_rfl)
  (by rw [hn,decide_eq_true (show ((Cc.eA key af 0).take 32).length=32 by rw [List.length_take,Cc.Dn];rfl),decide_eq_true (show (zj ctx mixed).flatten.length≤274877906944 by omega)];rfl) rfl rfl
 exact aj.fz 3 0 (by simp) (by simp) k (u:=.bk [.ro true .u8 (sy key af ctx mixed),.nl .nilIface]) (h2:=[]) (p:=aa (decide ((sy key af ctx mixed).length=16)) true) (by kernel_rfl) (by rw [sS];rfl)
noncomputable def tF:List SV→Option (SV×List Blk×Bool)
 | [.agg [.ints .u8 32 key],.ro false .u8 af,.ro false .u8 ctx,.ro false .u8 mixed]=>some (.bk [.ro true .u8 (sy key af ctx mixed),.nl .nilIface],[],decide (af.length=12)&&decide (ctx.length+mixed.length≤274877906000))
 |_=>none
noncomputable def xl:Entry Tryz.prog:=.val 72 _ Tryz.func72 (by decide) rfl true 0 tF fun vs v new e=>by
 unfold tF at e
 split at e
 ·simp only [Option.some.injEq,Prod.mk.injEq,Bool.and_eq_true,decide_eq_true_eq] at e
  obtain ⟨rfl,rfl,h1,h2⟩:=e
  exact HD h1 h2
 ·cases e
noncomputable def noC:bK:=mk (P:=Tryz.prog) [Ty] [] fun i=>if i=7 then some true else none
theorem TS:ag Tryz.prog noC:=ai _ aF.nil _ _
def di (n:Int):List Int:=[0,0,0,0]++dS (W n)
theorem HE (n:Int):aj Tryz.prog 40 [.int .i64 n] [] (.ro true .u8 (di n)) []:=
 aj.frozen (N:=12) (ex:=false) (wh:=true) (aj.dU TS Tryz.func40 (n:=200) (by kernel_rfl)) rfl
def HF:List SV→Option (SV×List Blk×Bool)
 | [.int .i64 n]=>some (.ro true .u8 (di n),[],true)
 |_=>none
noncomputable def Bz:Entry Tryz.prog:=.val 40 _ Tryz.func40 (by decide) rfl false 0 HF fun vs v new e=>by
 unfold HF at e
 split at e
 ·cases e;exact HE _
 ·cases e
noncomputable def X7 (a b c:Bool):bK:=mk (P:=Tryz.prog) [] [] fun i=>if i=10 then some a else if i=14 then some b else if i=24 then some c else none
theorem oB (a b c:Bool):ag Tryz.prog (X7 a b c):=ai _ aF.nil _ _
noncomputable def RM:Code:=aH Tryz.f81
noncomputable def y8 (xs ys:List Int) (i:Int):St:=⟨slotsOf 26 [(0,.ro false .u8 xs),(1,.ro false .u8 ys),(12,.int .i64 xs.length),(13,.int .i64 i)],[],true⟩
section
variable (xs ys:List Int) (i:Int)
theorem TT:(bE Tryz.prog (X7 true true true) 60 Tryz.f81 [.ro false .u8 xs,.ro false .u8 ys] []).map (fun x=>(x.1,x.2.2))=some (.bool false,aa true ((xs.length:Int) != (ys.length:Int))):=by kernel_rfl
theorem NU:(az Tryz.prog (X7 false true true) 60 0 4 (atoms RM) ⟨aT Tryz.f81.ntmps [.ro false .u8 xs,.ro false .u8 ys],[],true⟩).bind (St.cut [0,1,12,13] 0)=some {y8 xs ys 0 with ob:=aa true (!((xs.length:Int) != (ys.length:Int)))}:=by kernel_rfl
def eqO (i:Int) (n m:Nat):Bool:=aa (aa (aa (aa (aa true (decide (i<n))) (cK i n)) (decide (i.toNat<n))) (cK i m)) (decide (i.toNat<m))
theorem TU:(exec Tryz.prog (X7 false true false) 60 0 (inner (inner (ak 4 RM))) (y8 xs ys i)).bind (fun r=>(r.2.cut [0,1,12,13] 0).map fun q=>(r.1,q))=
  some (.normal,{y8 xs ys (IntKind.i64.wrap (i+1)) with ob:=aa (eqO i xs.length ys.length) (!(xs.getD i.toNat 0 != ys.getD i.toNat 0))}):=by kernel_rfl
theorem TV:(exec Tryz.prog (X7 false true true) 60 0 (inner (inner (ak 4 RM))) (y8 xs ys i)).bind (fun r=>(r.2.cut [4] 0).map fun q=>(r.1,q))=
  some (.ret,⟨slotsOf 26 [(4,.bool false)],[],aa (eqO i xs.length ys.length) (xs.getD i.toNat 0 != ys.getD i.toNat 0)⟩):=by kernel_rfl
theorem TW:(exec Tryz.prog (X7 false false true) 60 0 (inner (inner (ak 4 RM))) (y8 xs ys i)).bind (fun r=>(r.2.cut [] 0).map fun q=>(r.1,q))=
  some (.exit 0,⟨slotsOf 26 [],[],aa true (!decide (i<xs.length))⟩):=by kernel_rfl
end
theorem zk {i n m:Nat} (h1:i<n) (h2:i<m):eqO i n m=true:=by
 unfold eqO
 rw [aK (by omega) (by omega),aK (by omega) (by omega),decide_eq_true (show (i:Int)<n by omega),decide_eq_true (show (i:Int).toNat<n by omega),decide_eq_true (show (i:Int).toNat<m by omega)]
 rfl
theorem Dp {xs ys:List Int} (hl:xs.length=ys.length) (hn:xs.length<4611686018427387904) {i:Nat} (hi:i<xs.length) (h:xs.getD i 0=ys.getD i 0):Tr Tryz.prog none 0 (inner (inner (ak 4 RM))) (y8 xs ys i) .normal (y8 xs ys ((i+1:Nat):Int)):=by
 have k:=TU xs ys i
 rw [zk hi (by omega),Int.toNat_natCast,h,wrap_i64 _ (by omega) (by omega)] at k
 refine Tr.post (Tr.cut (oB false true false) 60 _ 0 (by omega) k (by simp [aa])) (aU.same ?_ rfl)
 show (y8 xs ys _).t=(y8 xs ys _).t
 rw [show ((i:Int)+1)=((i+1:Nat):Int) by omega]
theorem wg:∀{xs ys:List Int},xs.length=ys.length→xs≠ys→∃k,k<xs.length∧(∀i,i<k→xs.getD i 0=ys.getD i 0)∧xs.getD k 0≠ys.getD k 0
 | [],[],_,h=>absurd rfl h
 | [],_::_,h,_=>by simp at h
 |_::_,[],h,_=>by simp at h
 |x::xs,y::ys,hl,h=>by
  by_cases hx:x=y
  ·subst hx
   obtain ⟨k,h1,h2,h3⟩:=wg (xs:=xs) (ys:=ys) (by simpa using hl) (fun q=>h (by rw [q]))
   refine ⟨k+1,by simp;omega,fun i hi=>?_,by simpa using h3⟩
   cases i with
   |zero=>rfl
   |succ i=>simpa using h2 i (by omega)
  ·exact ⟨0,by simp,fun i hi=>by omega,by simpa using hx⟩
theorem HG {xs ys:List Int} (hn:xs.length<4611686018427387904):aj Tryz.prog 81 [.ro false .u8 xs,.ro false .u8 ys] [] (.bool (decide (xs=ys))) []:=by
 by_cases hl:xs.length=ys.length
 ·have hne:((xs.length:Int) != (ys.length:Int))=false:=by rw [hl];simp
  have hh:=NU xs ys
  rw [hne] at hh
  by_cases he:xs=ys
  ·rw [decide_eq_true he]
   have bS:Tr Tryz.prog none 0 (ak 4 RM) (y8 xs ys 0) .normal ⟨slotsOf 26 [],[],true⟩:=by
    refine Tr.loop (P:=Tryz.prog) (ro:=none) (k:=0) 0 (c:=ak 4 RM) (by kernel_rfl) (fun j:Nat=>y8 xs ys j) xs.length (fun j hj=>Dp hl hn hj (by rw [he])) ?_
    exact Tr.post (Tr.cut (oB false false true) 60 _ 0 (by omega) (TW xs ys xs.length) (by simp [aa])) (aU.same rfl rfl)
   refine aj.cg (oB false true true) 60 5 0 Tryz.func81 (by simp) rfl (fun s' x h=>?_) (s:=⟨slotsOf 26 [],[],true⟩) (p:=true) (by kernel_rfl) rfl rfl rfl
   refine aG.items (oB false true true) 60 4 _ 0 (by simp) hh rfl (by decide) ?_
   exact aG.item 4 (by decide) (Tr.pre bS (aU.same rfl rfl)) h
  ·rw [decide_eq_false he]
   obtain ⟨k,h1,h2,h3⟩:=wg hl he
   have kd:=TV xs ys k
   rw [zk h1 (by omega),Int.toNat_natCast,bne_iff_ne.2 h3] at kd
   have bS:Tr Tryz.prog none 0 (ak 4 RM) (y8 xs ys 0) .ret ⟨slotsOf 26 [(4,.bool false)],[],true⟩:=
    Tr.sU 0 (by kernel_rfl) (dy.for (by simp) (fun j:Nat=>y8 xs ys j) k (fun j hj=>Dp hl hn (by omega) (h2 j hj)) (Tr.cut (oB false true true) 60 _ 0 (by omega) kd rfl))
   refine aj.mk (vs:=[.bool false]) Tryz.func81 rfl (x:=.ret) (s:=⟨slotsOf 26 [(4,.bool false)],[],true⟩) ?_ (.inl rfl) (by kernel_rfl)
   refine aG.items (oB false true true) 60 4 _ 0 (by simp) hh rfl (by decide) ?_
   exact aG.leave 4 (by decide) (by simp) (Tr.pre bS (aU.same rfl rfl))
 ·rw [decide_eq_false (fun q=>hl (by rw [q]))]
  exact aP (oB true true true) 60 Tryz.func81 (TT xs ys) (by rw [bne_iff_ne.2 (by omega)];rfl) rfl
noncomputable def HH:List SV→Option (SV×List Blk×Bool)
 | [.ro false .u8 xs,.ro false .u8 ys]=>some (.bool (decide (xs=ys)),[],decide (xs.length<4611686018427387904))
 |_=>none
noncomputable def TX:Entry Tryz.prog:=.val 81 _ Tryz.func81 (by decide) rfl true 0 HH fun vs v new e=>by
 unfold HH at e
 split at e
 ·simp only [Option.some.injEq,Prod.mk.injEq,decide_eq_true_eq] at e
  obtain ⟨rfl,rfl,h⟩:=e
  exact HG h
 ·cases e
end Go.Proofs.YtibfpjeeanppjaaGreat.Ae
end
section
namespace Go.Proofs.YtibfpjeeanppjaaGreat.Ae
open Go Go.Sy Sh
noncomputable def seC:bK:=mk (P:=Tryz.prog) [Cc.NV,xl,Sh.js] [] fun i=>if i=15||i=19||i=24 then some false else none
theorem TY:ag Tryz.prog seC:=ai _ aF.nil _ _
noncomputable def eW (key af ctx text:List Int):List Int:=Cc.cI key af 1 text++sy key af ctx (Cc.cI key af 1 text)
theorem iZ (key af:List Int) (n:Int) (text:List Int):(Cc.cI key af n text).length=text.length:=by simp [Cc.cI]
theorem iT (key af ctx text:List Int):(eW key af ctx text).length=text.length+16:=by unfold eW;rw [List.length_append,iZ,sS]
noncomputable def seO (key af ctx text:List Int):Bool:=aa (aa (aa (aa (aa (aa true (!((af.length:Int) != 12))) (!decide ((ctx.length:Int)>1048576))) (!decide ((text.length:Int)>1048576))) (aa true (decide (af.length=12)&&true&&decide ((1:Int)+(text.length/64:Nat)≤4294967295)&&decide (text.length≤281474976710656))))
 (aa true (decide (af.length=12)&&decide (ctx.length+(Cc.cI key af 1 text).length≤274877906000)))) (aa true (decide ([Cc.cI key af 1 text,sy key af ctx (Cc.cI key af 1 text)].flatten.length≤274877906944)&&true))
theorem HI (key af ctx text:List Int):(bE Tryz.prog seC 60 Tryz.f39 [.agg [.ints .u8 32 key],.ro false .u8 af,.ro false .u8 ctx,.ro false .u8 text] []).map (fun x=>(x.1,x.2.2))=
  some (.bk [.ro true .u8 [Cc.cI key af 1 text,sy key af ctx (Cc.cI key af 1 text)].flatten,.nl .nilIface],seO key af ctx text):=by kernel_rfl
theorem NW {key af ctx text:List Int} (hn:af.length=12) (h1:ctx.length≤1048576) (h2:text.length≤1048576):
  aj Tryz.prog 39 [.agg [.ints .u8 32 key],.ro false .u8 af,.ro false .u8 ctx,.ro false .u8 text] [] (.bk [.ro true .u8 (eW key af ctx text),.nl .nilIface]) []:=by
 have e:[Cc.cI key af 1 text,sy key af ctx (Cc.cI key af 1 text)].flatten=eW key af ctx text:=by simp [eW]
 have k:=aP TY 60 Tryz.func39 (HI key af ctx text) (by
  unfold seO
  rw [e,iT,iZ,hn,decide_eq_false (show ¬((ctx.length:Int)>1048576) by omega),decide_eq_false (show ¬((text.length:Int)>1048576) by omega),decide_eq_true (show (1:Int)+(text.length/64:Nat)≤4294967295 by omega),decide_eq_true (show text.length≤281474976710656 by omega),decide_eq_true (show ctx.length+text.length≤274877906000 by omega),decide_eq_true (show text.length+16≤274877906944 by omega)]
  rfl) rfl
 rw [e] at k
 exact k
noncomputable def RN:List SV→Option (SV×List Blk×Bool)
 | [.agg [.ints .u8 32 key],.ro false .u8 af,.ro false .u8 ctx,.ro false .u8 text]=>some (.bk [.ro true .u8 (eW key af ctx text),.nl .nilIface],[],decide (af.length=12)&&decide (ctx.length≤1048576)&&decide (text.length≤1048576))
 |_=>none
noncomputable def RO:Entry Tryz.prog:=.val 39 _ Tryz.func39 (by decide) rfl true 0 RN fun vs v new e=>by
 unfold RN at e
 split at e
 ·simp only [Option.some.injEq,Prod.mk.injEq,Bool.and_eq_true,decide_eq_true_eq] at e
  obtain ⟨rfl,rfl,⟨h1,h2⟩,h3⟩:=e
  exact NW h1 h2 h3
 ·cases e
noncomputable def opC (a b:Bool):bK:=mk (P:=Tryz.prog) [Cc.NV,xl,TX] [] fun i=>if i=19||i=23||i=28 then some false else if i=33 then some a else if i=53 then some b else none
theorem BA (a b:Bool):ag Tryz.prog (opC a b):=ai _ aF.nil _ _
def Nl (x:List Int):Int:=IntKind.i64.wrap ((x.length:Int)-16)
def HJ (x:List Int):List Int:=x.take (Nl x).toNat
def opM (x:List Int):List Int:=x.drop (Nl x).toNat
def YU (af ctx x:List Int):Bool:=aa (aa (aa true (!((af.length:Int) != 12))) (!decide ((ctx.length:Int)>1048592))) (!decide ((x.length:Int)>1048592))
def X8 (x:List Int):Bool:=aa true (decide (0≤Nl x)&&decide (Nl x≤(x.length:Int)))
noncomputable def op2 (key af ctx x:List Int):Bool:=aa (aa (aa (aa (aa (YU af ctx x) (!decide (Nl x<0))) (X8 x)) (aa true (decide (af.length=12)&&decide (ctx.length+(HJ x).length≤274877906000)))) (aa true (X8 x))) (aa true (decide ((sy key af ctx (HJ x)).length<4611686018427387904)))
noncomputable def op3 (key af ctx x:List Int):Bool:=aa (aa (aa (op2 key af ctx x) (!!decide (sy key af ctx (HJ x)=opM x))) (X8 x)) (aa true (decide (af.length=12)&&true&&decide ((1:Int)+((HJ x).length/64:Nat)≤4294967295)&&decide ((HJ x).length≤281474976710656)))
noncomputable def wj:SV:=.bk [.nl (.slice none 0 0),.iface 78 (.int .i64 2)]
section
variable (key af ctx x:List Int)
theorem FE:(bE Tryz.prog (opC true true) 60 Tryz.f46 [.agg [.ints .u8 32 key],.ro false .u8 af,.ro false .u8 ctx,.ro false .u8 x] []).map (fun x=>(x.1,x.2.2))=some (wj,aa (YU af ctx x) (decide (Nl x<0))):=by kernel_rfl
theorem FF:(bE Tryz.prog (opC false true) 60 Tryz.f46 [.agg [.ints .u8 32 key],.ro false .u8 af,.ro false .u8 ctx,.ro false .u8 x] []).map (fun x=>(x.1,x.2.2))=some (wj,aa (op2 key af ctx x) (!decide (sy key af ctx (HJ x)=opM x))):=by kernel_rfl
theorem FG:(bE Tryz.prog (opC false false) 60 Tryz.f46 [.agg [.ints .u8 32 key],.ro false .u8 af,.ro false .u8 ctx,.ro false .u8 x] []).map (fun x=>(x.1,x.2.2))=some (.bk [.ro true .u8 (Cc.cI key af 1 (HJ x)),.nl .nilIface],op3 key af ctx x):=by kernel_rfl
end
noncomputable def gR (key af ctx x:List Int):Bool:=decide (16≤x.length)&&decide (sy key af ctx (x.take (x.length-16))=x.drop (x.length-16))
noncomputable def rN (key af x:List Int):List Int:=Cc.cI key af 1 (x.take (x.length-16))
theorem zl {key af ctx x:List Int} (hn:af.length=12) (h1:ctx.length≤1048592) (h2:x.length≤1048592):YU af ctx x=true∧(16≤x.length→HJ x=x.take (x.length-16)∧opM x=x.drop (x.length-16)∧op2 key af ctx x=true∧X8 x=true)∧(decide (Nl x<0)=!decide (16≤x.length)):=by
 have hA:Nl x=(x.length:Int)-16:=by unfold Nl;rw [wrap_i64 _ (by omega) (by omega)]
 have ho:YU af ctx x=true:=by
  unfold YU
  rw [hn,decide_eq_false (show ¬((ctx.length:Int)>1048592) by omega),decide_eq_false (show ¬((x.length:Int)>1048592) by omega)]
  rfl
 refine ⟨ho,fun h=>?_,?_⟩
 ·have e:(Nl x).toNat=x.length-16:=by rw [hA];omega
  have hb:X8 x=true:=by
   unfold X8
   rw [hA,decide_eq_true (show (0:Int)≤(x.length:Int)-16 by omega),decide_eq_true (show (x.length:Int)-16≤(x.length:Int) by omega)]
   rfl
  refine ⟨by unfold HJ;rw [e],by unfold opM;rw [e],?_,hb⟩
  unfold op2
  rw [ho,hb,hA,hn,sS,decide_eq_false (show ¬((x.length:Int)-16<0) by omega),decide_eq_true (show ctx.length+(HJ x).length≤274877906000 by unfold HJ;rw [List.length_take];omega)]
  rfl
 ·rw [hA]
  by_cases h:16≤x.length
  ·rw [decide_eq_true h,decide_eq_false (by omega)];rfl
  ·rw [decide_eq_false h,decide_eq_true (by omega)];rfl
theorem NX {key af ctx x:List Int} (hn:af.length=12) (h1:ctx.length≤1048592) (h2:x.length≤1048592) (ok:gR key af ctx x=true):
  aj Tryz.prog 46 [.agg [.ints .u8 32 key],.ro false .u8 af,.ro false .u8 ctx,.ro false .u8 x] [] (.bk [.ro true .u8 (rN key af x),.nl .nilIface]) []:=by
 obtain ⟨a1,a2,a3⟩:=zl (key:=key) hn h1 h2
 unfold gR at ok
 simp only [Bool.and_eq_true,decide_eq_true_eq] at ok
 obtain ⟨b1,b2,b3,b4⟩:=a2 ok.1
 have k:=aP (BA false false) 60 Tryz.func46 (FG key af ctx x) (by
  unfold op3
  rw [b3,b4,b1,b2,hn,decide_eq_true ok.2,decide_eq_true (show (1:Int)+((x.take (x.length-16)).length/64:Nat)≤4294967295 by rw [List.length_take];omega),decide_eq_true (show (x.take (x.length-16)).length≤281474976710656 by rw [List.length_take];omega)]
  rfl) rfl
 rw [b1] at k
 exact k
theorem HK {key af ctx x:List Int} (hn:af.length=12) (h1:ctx.length≤1048592) (h2:x.length≤1048592) (ok:gR key af ctx x=false):
  aj Tryz.prog 46 [.agg [.ints .u8 32 key],.ro false .u8 af,.ro false .u8 ctx,.ro false .u8 x] [] wj []:=by
 obtain ⟨a1,a2,a3⟩:=zl (key:=key) hn h1 h2
 unfold gR at ok
 by_cases h:16≤x.length
 ·obtain ⟨b1,b2,b3,b4⟩:=a2 h
  rw [decide_eq_true h,Bool.true_and] at ok
  exact aP (BA false true) 60 Tryz.func46 (FF key af ctx x) (by rw [b1,b2,ok,b3];rfl) rfl
 ·rw [decide_eq_false h] at a3
  exact aP (BA true true) 60 Tryz.func46 (FE key af ctx x) (by rw [a1,a3];rfl) rfl
noncomputable def RP (ok:Bool):List SV→Option (SV×List Blk×Bool)
 | [.agg [.ints .u8 32 key],.ro false .u8 af,.ro false .u8 ctx,.ro false .u8 x]=>match ok with
  |true=>some (.bk [.ro true .u8 (rN key af x),.nl .nilIface],[],decide (af.length=12)&&decide (ctx.length≤1048592)&&decide (x.length≤1048592)&&gR key af ctx x)
  |false=>some (wj,[],decide (af.length=12)&&decide (ctx.length≤1048592)&&decide (x.length≤1048592)&&!gR key af ctx x)
 |_=>none
noncomputable def RQ (ok:Bool):Entry Tryz.prog:=.val 46 _ Tryz.func46 (by decide) rfl true 0 (RP ok) fun vs v new e=>by
 unfold RP at e
 split at e
 ·split at e
  ·simp only [Option.some.injEq,Prod.mk.injEq,Bool.and_eq_true,decide_eq_true_eq] at e
   obtain ⟨rfl,rfl,⟨⟨h1,h2⟩,h3⟩,h4⟩:=e
   exact NX h1 h2 h3 h4
  ·simp only [Option.some.injEq,Prod.mk.injEq,Bool.and_eq_true,decide_eq_true_eq,Bool.not_eq_true'] at e
   obtain ⟨rfl,rfl,⟨⟨h1,h2⟩,h3⟩,h4⟩:=e
   exact HK h1 h2 h3 h4
 ·cases e
theorem BC (key af ctx text:List Int):gR key af ctx (eW key af ctx text)=true:=by
 unfold gR
 have hl:=iT key af ctx text
 have hm:=iZ key af 1 text
 rw [hl,Nat.add_sub_cancel]
 unfold eW
 rw [List.take_left' hm,List.drop_left' hm,decide_eq_true rfl,decide_eq_true (show 16≤text.length+16 by omega)]
 rfl
theorem Dq {a b:Nat} (ha:a<2^8) (hb:b<2^8):cj .u8 (a:Int) (b:Int)=((a^^^b:Nat):Int):=by
 unfold cj ja
 show IntKind.u8.wrap ((BitVec.ofInt 8 (a:Int)^^^BitVec.ofInt 8 (b:Int)).toNat:Int)=_
 rw [BitVec.ofInt_natCast,BitVec.ofInt_natCast,BitVec.toNat_xor,BitVec.toNat_ofNat,BitVec.toNat_ofNat,Nat.mod_eq_of_lt ha,Nat.mod_eq_of_lt hb,Fe.wrap_u8]
 have:=Nat.xor_lt_two_pow ha hb
 omega
theorem HL (a b:Fin 256):cj .u8 (cj .u8 (a.val:Int) (b.val:Int)) (b.val:Int)=(a.val:Int):=by
 rw [Dq (show a.val<2^8 from a.isLt) (show b.val<2^8 from b.isLt),Dq (Nat.xor_lt_two_pow (show a.val<2^8 from a.isLt) (show b.val<2^8 from b.isLt)) (show b.val<2^8 from b.isLt),Nat.xor_assoc,Nat.xor_self,Nat.xor_zero]
theorem TZ (key af:List Int) (n:Int) (i:Nat):0≤(Cc.eA key af n).getD i 0∧(Cc.eA key af n).getD i 0<256:=by
 rw [List.getD_eq_getElem?_getD]
 cases e:(Cc.eA key af n)[i]? with
 |none=>exact ⟨by decide,by decide⟩
 |some x=>
  have hx:=List.mem_of_getElem? e
  simp only [Cc.eA,aq,Cc.RR,List.mem_map] at hx
  obtain ⟨j,_,rfl⟩:=hx
  show 0≤IntKind.u8.wrap _∧IntKind.u8.wrap _<256
  rw [Fe.wrap_u8]
  exact ⟨Int.emod_nonneg _ (by decide),Int.emod_lt_of_pos _ (by decide)⟩
theorem HM {key af text:List Int} (n:Int) (h:∀x∈text,0≤x∧x<256):Cc.cI key af n (Cc.cI key af n text)=text:=by
 have hl:=iZ key af n text
 apply List.ext_getElem?
 intro i
 by_cases hi:i<text.length
 ·have e1:(Cc.cI key af n text).getD i 0=Cc.vG key af n text i:=by
   unfold Cc.cI
   rw [List.getD_eq_getElem?_getD,List.getElem?_map,List.getElem?_range hi];rfl
  have ht:=h text[i] (List.getElem_mem _)
  have hp:=TZ key af (n+(i/64:Nat)) (i%64)
  rw [Cc.cI,hl,List.getElem?_map,List.getElem?_range hi,List.getElem?_eq_getElem hi,Option.map_some]
  congr 1
  show cj .u8 ((Cc.cI key af n text).getD i 0) _=_
  rw [e1,Cc.vG,List.getD_eq_getElem?_getD,List.getElem?_eq_getElem hi,Option.getD_some]
  generalize (Cc.eA key af (n+(i/64:Nat))).getD (i%64) 0=p at*
  generalize text[i]=t at*
  have:=HL ⟨t.toNat,by omega⟩ ⟨p.toNat,by omega⟩
  simp only [Int.toNat_of_nonneg ht.1,Int.toNat_of_nonneg hp.1] at this
  exact this
 ·rw [List.getElem?_eq_none (by rw [iZ,hl];omega),List.getElem?_eq_none (by omega)]
theorem FH {key af ctx text:List Int} (h:∀x∈text,0≤x∧x<256):rN key af (eW key af ctx text)=text:=by
 unfold rN
 have hm:=iZ key af 1 text
 rw [iT,Nat.add_sub_cancel]
 unfold eW
 rw [List.take_left' hm]
 exact HM 1 h
end Go.Proofs.YtibfpjeeanppjaaGreat.Ae
end
