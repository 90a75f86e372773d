/- This file holds the texts AeD, AeE, AeF, a section each. No conditions beyond those in the theorems. -/
import Derived.Test.YtibfpjeeanppjaaGreatYAeC
import Derived.Test.YtibfpjeeanppjaaGreatYShI
import Derived.Test.YtibfpjeeanppjaaGreatYCcB
set_option linter.all false
set_option maxRecDepth 100000
section
namespace Go.Proofs.YtibfpjeeanppjaaGreat.Ae
open Go Go.Sy Sh
noncomputable def Fz (a:Bool):bu:=mk (P:=Tryz.prog) [Qi,Sh.jf,Sh.y4,vr,ab7] [] fun i=>if i=9 then some a else none
theorem gZ (a:Bool):ag Tryz.prog (Fz a):=ah _ au.nil _ _
noncomputable def ab8:bu:=mk (P:=Tryz.prog) [Qi,Sh.jf,Sh.y4,vr,ab7] []
theorem FA:ag Tryz.prog ab8:=ah _ au.nil _ _
noncomputable def DJ:Code:=aE Tryz.f115
noncomputable def maR:Code:=aA 3 DJ
def k8 (key:List Int):List Int:=(key.drop 8).take 24
def uJ (key:List Int):Int:=bS .u64 (eK key) 1152921487695413247
def uL (key:List Int):Int:=bS .u64 (eK (k8 key)) 1152921487695413244
noncomputable def tE:List (Option SV):=slotsOf 25 [(2,.ptr 0 0 0),(4,.ptr 1 0 0),(5,.ptr 3 0 0),(17,.fn (.func 164) [] [.ptr 4 0 0,.ptr 5 0 0])]
noncomputable def maK (key p h:List Int) (r s:Int):List Blk:=[.b [.ints .u8 32 key],.b [.ints .u8 16 (List.replicate 16 0)],su h r s,.b [.ptr 2 0 0],.b [.ro false .u8 p],.b [.int .i64 16]]
noncomputable def maH (key p h:List Int) (r s:Int) (l:Nat):List Blk:=[.b [.ints .u8 32 key],.b [.ints .u8 16 (List.replicate 16 0)],su h r s,.b [.ptr 2 0 0],.b [.ro false .u8 p],.b [.int .i64 16],.g (some (FB maR tE l))]
noncomputable def DK (key p h:List Int) (r s:Int) (l:Nat) (i:Int):St:=⟨slotsOf 31 [(0,.fn (.yield l) [] []),(1,.ptr 4 0 0),(2,.ptr 5 0 0),(4,.int .i64 i)],maH key p h r s l,true⟩
def xQ (p:List Int) (i:Int):Int:=IntKind.i64.wrap (i+if ((p.drop i.toNat).length:Int)<16 then ((p.drop i.toNat).length:Int) else 16)
def JJ (p:List Int) (i:Int):List Int:=(p.drop i.toNat).take ((xQ p i).toNat-i.toNat)
def WC (p h:List Int) (i:Int) (l:Nat):Bool:=
 aa (aa (aa (aa true (decide (i<p.length))) (aa true (aa true (decide (0≤i)&&decide (i≤p.length)))))
  (aa (decide (0≤xQ p i)&&decide (xQ p i≤p.length)) (aa (decide (0≤xQ p i)&&decide (xQ p i≤(xQ p i).toNat)) (decide (0≤i)&&decide (i≤(xQ p i).toNat)))))
  (aa (aa (aa (decide (l=l)) (decide (l=l))) (aa true (decide (h.length=3)&&Fe.u64 (g h 0)&&decide ((JJ p i).length≤16)))) (decide (l=l)))
section
variable (key p h:List Int) (r s:Int) (l:Nat) (i:Int)
theorem DL:(exec Tryz.prog (Fz true) 60 7 (inner (inner (aA 1 PT))) (DK key p h r s l i)).bind (fun r=>(r.2.cut [0,1,2,4] 7).map fun q=>(r.1,q))=
  some (.normal,{DK key p (sr h (JJ p i) r s) r s l (IntKind.i64.wrap (i+16)) with ob:=WC p h i l}):=by kernel_rfl
theorem DM:(exec Tryz.prog (Fz false) 60 7 (inner (inner (aA 1 PT))) (DK key p h r s l i)).bind (fun r=>(r.2.cut [0,1,2,4] 7).map fun q=>(r.1,q))=
  some (.exit 0,{DK key p h r s l i with ob:=aa true (!decide (i<p.length))}):=by kernel_rfl
theorem vu:(aW Tryz.prog (Fz true) 60 7 1 (atoms PT) ⟨aO Tryz.f164.ntmps [.fn (.yield l) [] [],.ptr 4 0 0,.ptr 5 0 0],maH key p h r s l,true⟩).bind (St.cut [0,1,2,4] 7)=some (DK key p h r s l 0):=by kernel_rfl
def maO (key:List Int) (xss:List (List Int)):Bool:=aa (aa (aa true (aa (aa (decide (key.length=32)&&true) (decide (key.length=32))) (decide (8≤key.length)))) (aa (aa (true&&decide (32≤key.length)) (decide ((k8 key).length=24))) (decide (8≤(k8 key).length)))) (aa true (decide (xss.flatten.length≤274877906944)&&decide (xss.length≤274877906944)))
theorem y5 (xss:List (List Int)):(aW Tryz.prog ab8 60 0 3 (atoms DJ) ⟨aO Tryz.f115.ntmps [.agg [.ints .u8 32 key],.iN false xss],[],true⟩).bind (St.cut [2,4,5,17] 6)=
  some ⟨tE,maK key xss.flatten [0,0,0] (uJ key) (uL key),maO key xss⟩:=by kernel_rfl
end
noncomputable def hN (p:List Int) (r s:Int):Nat→List Int
 |0=>[0,0,0]
 |j+1=>sr (hN p r s j) ((p.drop (16*j)).take 16) r s
theorem WD (p:List Int) (r s:Int):∀j,(hN p r s j).length=3∧∀i,R (g (hN p r s j) i)
 |0=>⟨rfl,fun i=>by
   match i with
   |0=>exact eL
   |1=>exact eL
   |2=>exact eL
   |n+3=>exact eL⟩
 |_+1=>Wx _ _ _ _
theorem J7 {p h:List Int} (hl:h.length=3) (h0:R (g h 0)) {j:Nat} (hj:16*j<p.length) (hb:p.length<274877906945) (l:Nat):JJ p (16*j:Nat)=(p.drop (16*j)).take 16∧WC p h (16*j:Nat) l=true:=by
 have hd:(p.drop (16*j)).length=p.length-16*j:=List.length_drop ..
 have he:xQ p (16*j:Nat)=((16*j+min 16 (p.length-16*j):Nat):Int):=by
  unfold xQ
  rw [Int.toNat_natCast,hd]
  split
  ·rw [wrap_i64 _ (by omega) (by omega)];omega
  ·rw [wrap_i64 _ (by omega) (by omega)];omega
 have hw:JJ p (16*j:Nat)=(p.drop (16*j)).take 16:=by
  unfold JJ
  rw [he,Int.toNat_natCast,Int.toNat_natCast,Nat.add_sub_cancel_left]
  by_cases hc:16≤p.length-16*j
  ·rw [Nat.min_eq_left hc]
  ·rw [Nat.min_eq_right (by omega),List.take_of_length_le (by omega),List.take_of_length_le (by omega)]
 refine ⟨hw,?_⟩
 have hlw:((p.drop (16*j)).take 16).length≤16:=by rw [List.length_take];omega
 unfold WC
 rw [hw,he,hl,Fe.jN.2 h0,decide_eq_true hlw]
 simp only [av,Bool.and_eq_true,decide_eq_true_eq,true_and,and_true,Int.toNat_natCast]
 omega
theorem Qp (key:List Int) {p:List Int} (hb:p.length<274877906945) (r s:Int) (l:Nat):
  ai Tryz.prog 164 [.fn (.yield l) [] [],.ptr 4 0 0,.ptr 5 0 0] (maH key p [0,0,0] r s l) (.aT []) (maH key p (hN p r s ((p.length+15)/16)) r s l):=by
 have bY:Tr Tryz.prog none 7 (aA 1 PT) (DK key p [0,0,0] r s l 0) .normal (DK key p (hN p r s ((p.length+15)/16)) r s l (16*((p.length+15)/16):Nat)):=by
  have j9:=Tr.loop (P:=Tryz.prog) (ro:=none) (k:=7) 0 (c:=aA 1 PT) (by kernel_rfl) (fun j:Nat=>DK key p (hN p r s j) r s l (16*j:Nat)) ((p.length+15)/16) (s':=DK key p (hN p r s ((p.length+15)/16)) r s l (16*((p.length+15)/16):Nat)) (fun j hj=>?_) ?_
  ·exact j9
  ·obtain ⟨a1,a2⟩:=WD p r s j
   obtain ⟨h1,h2⟩:=J7 a1 (a2 0) (p:=p) (j:=j) (by omega) hb l
   have k:=DL key p (hN p r s j) r s l (16*j:Nat)
   rw [h1,h2,wrap_i64 _ (by omega) (by omega)] at k
   refine Tr.post (Tr.cut (gZ true) 60 _ 7 (by omega) k rfl) (bq.same ?_ rfl)
   show (DK key p [] r s l _).t=(DK key p [] r s l _).t
   rw [show ((16*j:Nat):Int)+16=((16*(j+1):Nat):Int) by omega]
  ·have k:=DM key p (hN p r s ((p.length+15)/16)) r s l (16*((p.length+15)/16):Nat)
   exact Tr.post (Tr.cut (gZ false) 60 _ 7 (by omega) k (by rw [decide_eq_false (by omega)];rfl)) (bq.same rfl rfl)
 refine ai.mk (vs:=[]) Tryz.func164 rfl (x:=.normal) (s:=DK key p (hN p r s ((p.length+15)/16)) r s l (16*((p.length+15)/16):Nat)) ?_ (.inr rfl) (by kernel_rfl)
 refine bf.items (gZ true) 60 1 _ 7 (by show 7≤7;omega) (vu key p _ r s l) rfl (by decide) ?_
 exact bf.item 1 (by decide) bY ⟨rfl,rfl⟩
noncomputable def jO (key xs:List Int):List Int:=gY (Qn (hN xs (uJ key) (uL key) ((xs.length+15)/16)) key)
theorem Ig (key xs:List Int):(jO key xs).length=16:=by rw [jO,aD];rfl
theorem Qq {key:List Int} {xss:List (List Int)} (hk:key.length=32) (h1:xss.flatten.length≤274877906944) (h2:xss.length≤274877906944):ai Tryz.prog 115 [.agg [.ints .u8 32 key],.iN false xss] [] (.agg [.ints .u8 16 (jO key xss.flatten)]) []:=by
 obtain ⟨a1,a2⟩:=WD xss.flatten (uJ key) (uL key) ((xss.flatten.length+15)/16)
 have ho:maO key xss=true:=by
  unfold maO k8
  rw [decide_eq_true h1,decide_eq_true h2]
  simp [hk,aa]
 rw [jO,aD]
 generalize hH:hN xss.flatten (uJ key) (uL key) ((xss.flatten.length+15)/16)=H at a1 a2
 refine ai.cu FA 60 4 0 Tryz.func115 (by simp) rfl (fun s' x h=>?_) (s:=⟨tE,maK key xss.flatten H (uJ key) (uL key)++[.gap],true⟩)
  (p:=aa true (aa true (decide (H.length=3)&&Fe.u64 (g H 0)&&Fe.u64 (g H 1)&&Fe.u64 (g H 2)&&decide (key.length=32)))) (by kernel_rfl) (by rw [a1,hk,Fe.jN.2 (a2 0),Fe.jN.2 (a2 1),Fe.jN.2 (a2 2)];rfl) rfl rfl
 refine bf.items FA 60 3 _ 6 (by simp) (y5 key xss) ho (by decide) ?_
 refine bf.item 3 (by decide) ?_ h
 rw [←hH]
 exact Tr.y6 0 (by kernel_rfl) (f:=164) (first:=[]) (kG:=[.ptr 4 0 0,.ptr 5 0 0]) true Tryz.func164 (by decide) rfl (by kernel_rfl) (fun l=>Qp key (by omega) (uJ key) (uL key) l)
  (fun l=>⟨_,rfl,rfl,by simp [FB],rfl⟩) (fun l=>rfl)
noncomputable def UB:List SV→Option (SV×List Blk×Bool)
 | [.agg [.ints .u8 32 key],.iN false xss]=>some (.agg [.ints .u8 16 (jO key xss.flatten)],[],decide (key.length=32)&&decide (xss.flatten.length≤274877906944)&&decide (xss.length≤274877906944))
 |_=>none
noncomputable def ab9:Entry Tryz.prog:=.val 115 _ Tryz.func115 (by decide) rfl true 0 UB fun vs v new e=>by
 unfold UB at e
 split at e
 ·simp only [Option.some.injEq,Prod.mk.injEq,Bool.and_eq_true,decide_eq_true_eq] at e
  obtain ⟨rfl,rfl,⟨h0,h1⟩,h2⟩:=e
  exact Qq h0 h1 h2
 ·cases e
def jP (n:Int):Nat:=((16-n%16)%16).toNat
def FC (n:Int):Int:=(IntKind.i64.wrap (16-n.tmod 16)).tmod 16
theorem pO {n:Int} (h:0≤n):FC n=(jP n:Int)∧jP n<16:=by
 unfold FC jP
 rw [Int.tmod_eq_emod_of_nonneg h,wrap_i64 _ (by omega) (by omega),Int.tmod_eq_emod_of_nonneg (by omega)]
 omega
noncomputable def flC:bu:=mk (P:=Tryz.prog) [] []
theorem WE:ag Tryz.prog flC:=ah _ au.nil _ _
theorem J8 (n:Int):br Tryz.prog flC 60 Tryz.f116 [.int .i64 n] []=some (.sl 0 0 0 1 (FC n).toNat (FC n).toNat true true,[.b [.ints .u8 (FC n).toNat (List.replicate (FC n).toNat 0)]],
  aa true (IntKind.i64.wrap (FC n)==FC n&&IntKind.i64.wrap (FC n)==FC n&&(decide (0≤FC n)&&decide (FC n≤FC n)&&decide ((1:Int)*FC n≤281474976710656)))):=by kernel_rfl
theorem Qr {n:Int} (h:0≤n):ai Tryz.prog 116 [.int .i64 n] [] (.ro true .u8 (List.replicate (jP n) 0)) []:=by
 obtain ⟨e,hb⟩:=pO h
 have k:=J8 n
 rw [e,wrap_i64 _ (by omega) (by omega),beq_self_eq_true,decide_eq_true (show (0:Int)≤jP n by omega),decide_eq_true (show (1:Int)*jP n≤281474976710656 by omega),decide_eq_true (Int.le_refl _),Int.toNat_natCast] at k
 exact ai.frozen (ai.dw WE Tryz.func116 k) (by simp)
def UC:List SV→Option (SV×List Blk×Bool)
 | [.int .i64 n]=>some (.ro true .u8 (List.replicate (jP n) 0),[],decide (0≤n))
 |_=>none
noncomputable def acd:Entry Tryz.prog:=.val 116 _ Tryz.func116 (by decide) rfl false 0 UC fun vs v new e=>by
 unfold UC at e
 split at e
 ·simp only [Option.some.injEq,Prod.mk.injEq,decide_eq_true_eq] at e
  obtain ⟨rfl,rfl,h⟩:=e
  exact Qr h
 ·cases e
end Go.Proofs.YtibfpjeeanppjaaGreat.Ae
end
section
namespace Go.Proofs.YtibfpjeeanppjaaGreat.Ae
open Go Go.Sy Sh
noncomputable def mkC:bu:=mk (P:=Tryz.prog) [Cc.pcE,Wm,acd,ab9] []
theorem WG:ag Tryz.prog mkC:=ah _ au.nil _ _
noncomputable def DN (ctx mixed:List Int):List (List Int):=[ctx,List.replicate (jP (ctx.length:Int)) 0,mixed,List.replicate (jP (mixed.length:Int)) 0,eI (W (ctx.length:Int)),eI (W (mixed.length:Int))]
noncomputable def uo (key af ctx mixed:List Int):List Int:=jO ((Cc.fq key af 0).take 32) (DN ctx mixed).flatten
theorem qA (key af ctx mixed:List Int):(uo key af ctx mixed).length=16:=Ig _ _
theorem Qs (ctx mixed:List Int):(DN ctx mixed).flatten.length≤ctx.length+mixed.length+48:=by
 have h1:=(pO (n:=(ctx.length:Int)) (by omega)).2
 have h2:=(pO (n:=(mixed.length:Int)) (by omega)).2
 have h3:∀n,(eI n).length=8:=fun n=>by simp [eI]
 unfold DN
 simp only [List.flatten_cons,List.flatten_nil,List.length_append,List.length_replicate,h3,List.length_nil]
 omega
theorem J9 {key af ctx mixed:List Int} (hn:af.length=12) (h1:ctx.length+mixed.length≤274877906000):
  ai Tryz.prog 72 [.agg [.ints .u8 32 key],.ro false .u8 af,.ro false .u8 ctx,.ro false .u8 mixed] [] (.aT [.ro true .u8 (uo key af ctx mixed),.nl .nilIface]) []:=by
 have ht:=Qs ctx mixed
 have k:=aQ WG 60 Tryz.func72 (args:=[.agg [.ints .u8 32 key],.ro false .u8 af,.ro false .u8 ctx,.ro false .u8 mixed]) (h:=[]) 4 (by simp) (v:=.aT [.sl 3 0 0 1 16 16 true true,.nl .nilIface])
  (h1:=[.b [.ints .u8 32 key],.b [.ints .u8 64 (Cc.fq key af 0)],.b [.ro false .u8 ctx,.ro true .u8 (List.replicate (jP (ctx.length:Int)) 0),.ro false .u8 mixed,.ro true .u8 (List.replicate (jP (mixed.length:Int)) 0),.ro true .u8 (eI (W (ctx.length:Int))),.ro true .u8 (eI (W (mixed.length:Int)))],.b [.ints .u8 16 (uo key af ctx mixed)]])
  (p:=aa (aa true (aa true (decide (af.length=12)&&true&&true))) (aa true (decide (((Cc.fq key af 0).take 32).length=32)&&decide ((DN ctx mixed).flatten.length≤274877906944)&&true))) (by kernel_rfl)
  (by rw [hn,decide_eq_true (show ((Cc.fq key af 0).take 32).length=32 by rw [List.length_take,Cc.FD];rfl),decide_eq_true (show (DN ctx mixed).flatten.length≤274877906944 by omega)];rfl) rfl rfl
 exact ai.fz 3 0 (by simp) (by simp) k (u:=.aT [.ro true .u8 (uo key af ctx mixed),.nl .nilIface]) (h2:=[]) (p:=aa (decide ((uo key af ctx mixed).length=16)) true) (by kernel_rfl) (by rw [qA];rfl)
noncomputable def vv:List SV→Option (SV×List Blk×Bool)
 | [.agg [.ints .u8 32 key],.ro false .u8 af,.ro false .u8 ctx,.ro false .u8 mixed]=>some (.aT [.ro true .u8 (uo key af ctx mixed),.nl .nilIface],[],decide (af.length=12)&&decide (ctx.length+mixed.length≤274877906000))
 |_=>none
noncomputable def y7:Entry Tryz.prog:=.val 72 _ Tryz.func72 (by decide) rfl true 0 vv fun vs v new e=>by
 unfold vv at e
 split at e
 ·simp only [Option.some.injEq,Prod.mk.injEq,Bool.and_eq_true,decide_eq_true_eq] at e
  obtain ⟨rfl,rfl,h1,h2⟩:=e
  exact J9 h1 h2
 ·cases e
noncomputable def FE:bu:=mk (P:=Tryz.prog) [Wm] [] fun i=>if i=7 then some true else none
theorem WH:ag Tryz.prog FE:=ah _ au.nil _ _
def aI (n:Int):List Int:=[0,0,0,0]++eI (W n)
theorem Ka (n:Int):ai Tryz.prog 40 [.int .i64 n] [] (.ro true .u8 (aI n)) []:=
 ai.frozen (N:=12) (ex:=false) (wh:=true) (ai.dw WH Tryz.func40 (n:=200) (by kernel_rfl)) rfl
def Kb:List SV→Option (SV×List Blk×Bool)
 | [.int .i64 n]=>some (.ro true .u8 (aI n),[],true)
 |_=>none
noncomputable def vw:Entry Tryz.prog:=.val 40 _ Tryz.func40 (by decide) rfl false 0 Kb fun vs v new e=>by
 unfold Kb at e
 split at e
 ·cases e;exact Ka _
 ·cases e
noncomputable def eqC (a b c:Bool):bu:=mk (P:=Tryz.prog) [] [] fun i=>if i=10 then some a else if i=14 then some b else if i=24 then some c else none
theorem pP (a b c:Bool):ag Tryz.prog (eqC a b c):=ah _ au.nil _ _
noncomputable def UD:Code:=aE Tryz.f81
noncomputable def A8 (xs ys:List Int) (i:Int):St:=⟨slotsOf 26 [(0,.ro false .u8 xs),(1,.ro false .u8 ys),(12,.int .i64 xs.length),(13,.int .i64 i)],[],true⟩
section
variable (xs ys:List Int) (i:Int)
theorem WI:(br Tryz.prog (eqC true true true) 60 Tryz.f81 [.ro false .u8 xs,.ro false .u8 ys] []).map (fun x=>(x.1,x.2.2))=some (.bool false,aa true ((xs.length:Int) != (ys.length:Int))):=by kernel_rfl
theorem Qt:(aW Tryz.prog (eqC false true true) 60 0 4 (atoms UD) ⟨aO Tryz.f81.ntmps [.ro false .u8 xs,.ro false .u8 ys],[],true⟩).bind (St.cut [0,1,12,13] 0)=some {A8 xs ys 0 with ob:=aa true (!((xs.length:Int) != (ys.length:Int)))}:=by kernel_rfl
def eqO (i:Int) (n m:Nat):Bool:=aa (aa (aa (aa (aa true (decide (i<n))) (cL i n)) (decide (i.toNat<n))) (cL i m)) (decide (i.toNat<m))
theorem WJ:(exec Tryz.prog (eqC false true false) 60 0 (inner (inner (aA 4 UD))) (A8 xs ys i)).bind (fun r=>(r.2.cut [0,1,12,13] 0).map fun q=>(r.1,q))=
  some (.normal,{A8 xs ys (IntKind.i64.wrap (i+1)) with ob:=aa (eqO i xs.length ys.length) (!(xs.getD i.toNat 0 != ys.getD i.toNat 0))}):=by kernel_rfl
theorem WK:(exec Tryz.prog (eqC false true true) 60 0 (inner (inner (aA 4 UD))) (A8 xs ys i)).bind (fun r=>(r.2.cut [4] 0).map fun q=>(r.1,q))=
  some (.ret,⟨slotsOf 26 [(4,.bool false)],[],aa (eqO i xs.length ys.length) (xs.getD i.toNat 0 != ys.getD i.toNat 0)⟩):=by kernel_rfl
theorem WL:(exec Tryz.prog (eqC false false true) 60 0 (inner (inner (aA 4 UD))) (A8 xs ys i)).bind (fun r=>(r.2.cut [] 0).map fun q=>(r.1,q))=
  some (.exit 0,⟨slotsOf 26 [],[],aa true (!decide (i<xs.length))⟩):=by kernel_rfl
end
theorem Bl {i n m:Nat} (h1:i<n) (h2:i<m):eqO i n m=true:=by
 unfold eqO
 rw [aK (by omega) (by omega),aK (by omega) (by omega),decide_eq_true (show (i:Int)<n by omega),decide_eq_true (show (i:Int).toNat<n by omega),decide_eq_true (show (i:Int).toNat<m by omega)]
 rfl
theorem FF {xs ys:List Int} (hl:xs.length=ys.length) (hn:xs.length<4611686018427387904) {i:Nat} (hi:i<xs.length) (h:xs.getD i 0=ys.getD i 0):Tr Tryz.prog none 0 (inner (inner (aA 4 UD))) (A8 xs ys i) .normal (A8 xs ys ((i+1:Nat):Int)):=by
 have k:=WJ xs ys i
 rw [Bl hi (by omega),Int.toNat_natCast,h,wrap_i64 _ (by omega) (by omega)] at k
 refine Tr.post (Tr.cut (pP false true false) 60 _ 0 (by omega) k (by simp [aa])) (bq.same ?_ rfl)
 show (A8 xs ys _).t=(A8 xs ys _).t
 rw [show ((i:Int)+1)=((i+1:Nat):Int) by omega]
theorem yh:∀{xs ys:List Int},xs.length=ys.length→xs≠ys→∃k,k<xs.length∧(∀i,i<k→xs.getD i 0=ys.getD i 0)∧xs.getD k 0≠ys.getD k 0
 | [],[],_,h=>absurd rfl h
 | [],_::_,h,_=>by simp at h
 |_::_,[],h,_=>by simp at h
 |x::xs,y::ys,hl,h=>by
  by_cases hx:x=y
  ·subst hx
   obtain ⟨k,h1,h2,h3⟩:=yh (xs:=xs) (ys:=ys) (by simpa using hl) (fun q=>h (by rw [q]))
   refine ⟨k+1,by simp;omega,fun i hi=>?_,by simpa using h3⟩
   cases i with
   |zero=>rfl
   |succ i=>simpa using h2 i (by omega)
  ·exact ⟨0,by simp,fun i hi=>by omega,by simpa using hx⟩
theorem Kc {xs ys:List Int} (hn:xs.length<4611686018427387904):ai Tryz.prog 81 [.ro false .u8 xs,.ro false .u8 ys] [] (.bool (decide (xs=ys))) []:=by
 by_cases hl:xs.length=ys.length
 ·have hne:((xs.length:Int) != (ys.length:Int))=false:=by rw [hl];simp
  have hh:=Qt xs ys
  rw [hne] at hh
  by_cases he:xs=ys
  ·rw [decide_eq_true he]
   have bY:Tr Tryz.prog none 0 (aA 4 UD) (A8 xs ys 0) .normal ⟨slotsOf 26 [],[],true⟩:=by
    refine Tr.loop (P:=Tryz.prog) (ro:=none) (k:=0) 0 (c:=aA 4 UD) (by kernel_rfl) (fun j:Nat=>A8 xs ys j) xs.length (fun j hj=>FF hl hn hj (by rw [he])) ?_
    exact Tr.post (Tr.cut (pP false false true) 60 _ 0 (by omega) (WL xs ys xs.length) (by simp [aa])) (bq.same rfl rfl)
   refine ai.cu (pP false true true) 60 5 0 Tryz.func81 (by simp) rfl (fun s' x h=>?_) (s:=⟨slotsOf 26 [],[],true⟩) (p:=true) (by kernel_rfl) rfl rfl rfl
   refine bf.items (pP false true true) 60 4 _ 0 (by simp) hh rfl (by decide) ?_
   exact bf.item 4 (by decide) (Tr.pre bY (bq.same rfl rfl)) h
  ·rw [decide_eq_false he]
   obtain ⟨k,h1,h2,h3⟩:=yh hl he
   have kd:=WK xs ys k
   rw [Bl h1 (by omega),Int.toNat_natCast,bne_iff_ne.2 h3] at kd
   have bY:Tr Tryz.prog none 0 (aA 4 UD) (A8 xs ys 0) .ret ⟨slotsOf 26 [(4,.bool false)],[],true⟩:=
    Tr.qD 0 (by kernel_rfl) (iR.for (by simp) (fun j:Nat=>A8 xs ys j) k (fun j hj=>FF hl hn (by omega) (h2 j hj)) (Tr.cut (pP false true true) 60 _ 0 (by omega) kd rfl))
   refine ai.mk (vs:=[.bool false]) Tryz.func81 rfl (x:=.ret) (s:=⟨slotsOf 26 [(4,.bool false)],[],true⟩) ?_ (.inl rfl) (by kernel_rfl)
   refine bf.items (pP false true true) 60 4 _ 0 (by simp) hh rfl (by decide) ?_
   exact bf.leave 4 (by decide) (by simp) (Tr.pre bY (bq.same rfl rfl))
 ·rw [decide_eq_false (fun q=>hl (by rw [q]))]
  exact aF (pP true true true) 60 Tryz.func81 (WI xs ys) (by rw [bne_iff_ne.2 (by omega)];rfl) rfl
noncomputable def Ke:List SV→Option (SV×List Blk×Bool)
 | [.ro false .u8 xs,.ro false .u8 ys]=>some (.bool (decide (xs=ys)),[],decide (xs.length<4611686018427387904))
 |_=>none
noncomputable def WM:Entry Tryz.prog:=.val 81 _ Tryz.func81 (by decide) rfl true 0 Ke fun vs v new e=>by
 unfold Ke at e
 split at e
 ·simp only [Option.some.injEq,Prod.mk.injEq,decide_eq_true_eq] at e
  obtain ⟨rfl,rfl,h⟩:=e
  exact Kc h
 ·cases e
end Go.Proofs.YtibfpjeeanppjaaGreat.Ae
end
section
namespace Go.Proofs.YtibfpjeeanppjaaGreat.Ae
open Go Go.Sy Sh
noncomputable def seC:bu:=mk (P:=Tryz.prog) [Cc.Bm,y7,Sh.jf] [] fun i=>if i=15||i=19||i=24 then some false else none
theorem WN:ag Tryz.prog seC:=ah _ au.nil _ _
noncomputable def fu (key af ctx text:List Int):List Int:=Cc.cE key af 1 text++uo key af ctx (Cc.cE key af 1 text)
theorem iA (key af:List Int) (n:Int) (text:List Int):(Cc.cE key af n text).length=text.length:=by simp [Cc.cE]
theorem fk (key af ctx text:List Int):(fu key af ctx text).length=text.length+16:=by unfold fu;rw [List.length_append,iA,qA]
noncomputable def seO (key af ctx text:List Int):Bool:=aa (aa (aa (aa (aa (aa true (!((af.length:Int) != 12))) (!decide ((ctx.length:Int)>1048576))) (!decide ((text.length:Int)>1048576))) (aa true (decide (af.length=12)&&true&&decide ((1:Int)+(text.length/64:Nat)≤4294967295)&&decide (text.length≤281474976710656))))
 (aa true (decide (af.length=12)&&decide (ctx.length+(Cc.cE key af 1 text).length≤274877906000)))) (aa true (decide ([Cc.cE key af 1 text,uo key af ctx (Cc.cE key af 1 text)].flatten.length≤274877906944)&&true))
theorem Kf (key af ctx text:List Int):(br Tryz.prog seC 60 Tryz.f39 [.agg [.ints .u8 32 key],.ro false .u8 af,.ro false .u8 ctx,.ro false .u8 text] []).map (fun x=>(x.1,x.2.2))=
  some (.aT [.ro true .u8 [Cc.cE key af 1 text,uo key af ctx (Cc.cE key af 1 text)].flatten,.nl .nilIface],seO key af ctx text):=by kernel_rfl
theorem Qu {key af ctx text:List Int} (hn:af.length=12) (h1:ctx.length≤1048576) (h2:text.length≤1048576):
  ai Tryz.prog 39 [.agg [.ints .u8 32 key],.ro false .u8 af,.ro false .u8 ctx,.ro false .u8 text] [] (.aT [.ro true .u8 (fu key af ctx text),.nl .nilIface]) []:=by
 have e:[Cc.cE key af 1 text,uo key af ctx (Cc.cE key af 1 text)].flatten=fu key af ctx text:=by simp [fu]
 have k:=aF WN 60 Tryz.func39 (Kf key af ctx text) (by
  unfold seO
  rw [e,fk,iA,hn,decide_eq_false (show ¬((ctx.length:Int)>1048576) by omega),decide_eq_false (show ¬((text.length:Int)>1048576) by omega),decide_eq_true (show (1:Int)+(text.length/64:Nat)≤4294967295 by omega),decide_eq_true (show text.length≤281474976710656 by omega),decide_eq_true (show ctx.length+text.length≤274877906000 by omega),decide_eq_true (show text.length+16≤274877906944 by omega)]
  rfl) rfl
 rw [e] at k
 exact k
noncomputable def UE:List SV→Option (SV×List Blk×Bool)
 | [.agg [.ints .u8 32 key],.ro false .u8 af,.ro false .u8 ctx,.ro false .u8 text]=>some (.aT [.ro true .u8 (fu key af ctx text),.nl .nilIface],[],decide (af.length=12)&&decide (ctx.length≤1048576)&&decide (text.length≤1048576))
 |_=>none
noncomputable def UF:Entry Tryz.prog:=.val 39 _ Tryz.func39 (by decide) rfl true 0 UE fun vs v new e=>by
 unfold UE at e
 split at e
 ·simp only [Option.some.injEq,Prod.mk.injEq,Bool.and_eq_true,decide_eq_true_eq] at e
  obtain ⟨rfl,rfl,⟨h1,h2⟩,h3⟩:=e
  exact Qu h1 h2 h3
 ·cases e
noncomputable def opC (a b:Bool):bu:=mk (P:=Tryz.prog) [Cc.Bm,y7,WM] [] fun i=>if i=19||i=23||i=28 then some false else if i=33 then some a else if i=53 then some b else none
theorem DO (a b:Bool):ag Tryz.prog (opC a b):=ah _ au.nil _ _
def JK (x:List Int):Int:=IntKind.i64.wrap ((x.length:Int)-16)
def oZ (x:List Int):List Int:=x.take (JK x).toNat
def Kg (x:List Int):List Int:=x.drop (JK x).toNat
def WO (af ctx x:List Int):Bool:=aa (aa (aa true (!((af.length:Int) != 12))) (!decide ((ctx.length:Int)>1048592))) (!decide ((x.length:Int)>1048592))
def Qv (x:List Int):Bool:=aa true (decide (0≤JK x)&&decide (JK x≤(x.length:Int)))
noncomputable def op2 (key af ctx x:List Int):Bool:=aa (aa (aa (aa (aa (WO af ctx x) (!decide (JK x<0))) (Qv x)) (aa true (decide (af.length=12)&&decide (ctx.length+(oZ x).length≤274877906000)))) (aa true (Qv x))) (aa true (decide ((uo key af ctx (oZ x)).length<4611686018427387904)))
noncomputable def op3 (key af ctx x:List Int):Bool:=aa (aa (aa (op2 key af ctx x) (!!decide (uo key af ctx (oZ x)=Kg x))) (Qv x)) (aa true (decide (af.length=12)&&true&&decide ((1:Int)+((oZ x).length/64:Nat)≤4294967295)&&decide ((oZ x).length≤281474976710656)))
noncomputable def yj:SV:=.aT [.nl (.slice none 0 0),.iface 78 (.int .i64 2)]
section
variable (key af ctx x:List Int)
theorem Ih:(br Tryz.prog (opC true true) 60 Tryz.f46 [.agg [.ints .u8 32 key],.ro false .u8 af,.ro false .u8 ctx,.ro false .u8 x] []).map (fun x=>(x.1,x.2.2))=some (yj,aa (WO af ctx x) (decide (JK x<0))):=by kernel_rfl
theorem Ii:(br Tryz.prog (opC false true) 60 Tryz.f46 [.agg [.ints .u8 32 key],.ro false .u8 af,.ro false .u8 ctx,.ro false .u8 x] []).map (fun x=>(x.1,x.2.2))=some (yj,aa (op2 key af ctx x) (!decide (uo key af ctx (oZ x)=Kg x))):=by kernel_rfl
theorem Ij:(br Tryz.prog (opC false false) 60 Tryz.f46 [.agg [.ints .u8 32 key],.ro false .u8 af,.ro false .u8 ctx,.ro false .u8 x] []).map (fun x=>(x.1,x.2.2))=some (.aT [.ro true .u8 (Cc.cE key af 1 (oZ x)),.nl .nilIface],op3 key af ctx x):=by kernel_rfl
end
noncomputable def bJ (key af ctx x:List Int):Bool:=decide (16≤x.length)&&decide (uo key af ctx (x.take (x.length-16))=x.drop (x.length-16))
noncomputable def cn (key af x:List Int):List Int:=Cc.cE key af 1 (x.take (x.length-16))
theorem ni {key af ctx x:List Int} (hn:af.length=12) (h1:ctx.length≤1048592) (h2:x.length≤1048592):WO af ctx x=true∧(16≤x.length→oZ x=x.take (x.length-16)∧Kg x=x.drop (x.length-16)∧op2 key af ctx x=true∧Qv x=true)∧(decide (JK x<0)=!decide (16≤x.length)):=by
 have hA:JK x=(x.length:Int)-16:=by unfold JK;rw [wrap_i64 _ (by omega) (by omega)]
 have ho:WO af ctx x=true:=by
  unfold WO
  rw [hn,decide_eq_false (show ¬((ctx.length:Int)>1048592) by omega),decide_eq_false (show ¬((x.length:Int)>1048592) by omega)]
  rfl
 refine ⟨ho,fun h=>?_,?_⟩
 ·have e:(JK x).toNat=x.length-16:=by rw [hA];omega
  have hb:Qv x=true:=by
   unfold Qv
   rw [hA,decide_eq_true (show (0:Int)≤(x.length:Int)-16 by omega),decide_eq_true (show (x.length:Int)-16≤(x.length:Int) by omega)]
   rfl
  refine ⟨by unfold oZ;rw [e],by unfold Kg;rw [e],?_,hb⟩
  unfold op2
  rw [ho,hb,hA,hn,qA,decide_eq_false (show ¬((x.length:Int)-16<0) by omega),decide_eq_true (show ctx.length+(oZ x).length≤274877906000 by unfold oZ;rw [List.length_take];omega)]
  rfl
 ·rw [hA]
  by_cases h:16≤x.length
  ·rw [decide_eq_true h,decide_eq_false (by omega)];rfl
  ·rw [decide_eq_false h,decide_eq_true (by omega)];rfl
theorem Qw {key af ctx x:List Int} (hn:af.length=12) (h1:ctx.length≤1048592) (h2:x.length≤1048592) (ok:bJ key af ctx x=true):
  ai Tryz.prog 46 [.agg [.ints .u8 32 key],.ro false .u8 af,.ro false .u8 ctx,.ro false .u8 x] [] (.aT [.ro true .u8 (cn key af x),.nl .nilIface]) []:=by
 obtain ⟨a1,a2,a3⟩:=ni (key:=key) hn h1 h2
 unfold bJ at ok
 simp only [Bool.and_eq_true,decide_eq_true_eq] at ok
 obtain ⟨b1,b2,b3,b4⟩:=a2 ok.1
 have k:=aF (DO false false) 60 Tryz.func46 (Ij key af ctx x) (by
  unfold op3
  rw [b3,b4,b1,b2,hn,decide_eq_true ok.2,decide_eq_true (show (1:Int)+((x.take (x.length-16)).length/64:Nat)≤4294967295 by rw [List.length_take];omega),decide_eq_true (show (x.take (x.length-16)).length≤281474976710656 by rw [List.length_take];omega)]
  rfl) rfl
 rw [b1] at k
 exact k
theorem Kh {key af ctx x:List Int} (hn:af.length=12) (h1:ctx.length≤1048592) (h2:x.length≤1048592) (ok:bJ key af ctx x=false):
  ai Tryz.prog 46 [.agg [.ints .u8 32 key],.ro false .u8 af,.ro false .u8 ctx,.ro false .u8 x] [] yj []:=by
 obtain ⟨a1,a2,a3⟩:=ni (key:=key) hn h1 h2
 unfold bJ at ok
 by_cases h:16≤x.length
 ·obtain ⟨b1,b2,b3,b4⟩:=a2 h
  rw [decide_eq_true h,Bool.true_and] at ok
  exact aF (DO false true) 60 Tryz.func46 (Ii key af ctx x) (by rw [b1,b2,ok,b3];rfl) rfl
 ·rw [decide_eq_false h] at a3
  exact aF (DO true true) 60 Tryz.func46 (Ih key af ctx x) (by rw [a1,a3];rfl) rfl
noncomputable def UG (ok:Bool):List SV→Option (SV×List Blk×Bool)
 | [.agg [.ints .u8 32 key],.ro false .u8 af,.ro false .u8 ctx,.ro false .u8 x]=>match ok with
  |true=>some (.aT [.ro true .u8 (cn key af x),.nl .nilIface],[],decide (af.length=12)&&decide (ctx.length≤1048592)&&decide (x.length≤1048592)&&bJ key af ctx x)
  |false=>some (yj,[],decide (af.length=12)&&decide (ctx.length≤1048592)&&decide (x.length≤1048592)&&!bJ key af ctx x)
 |_=>none
noncomputable def FG (ok:Bool):Entry Tryz.prog:=.val 46 _ Tryz.func46 (by decide) rfl true 0 (UG ok) fun vs v new e=>by
 unfold UG at e
 split at e
 ·split at e
  ·simp only [Option.some.injEq,Prod.mk.injEq,Bool.and_eq_true,decide_eq_true_eq] at e
   obtain ⟨rfl,rfl,⟨⟨h1,h2⟩,h3⟩,h4⟩:=e
   exact Qw h1 h2 h3 h4
  ·simp only [Option.some.injEq,Prod.mk.injEq,Bool.and_eq_true,decide_eq_true_eq,Bool.not_eq_true'] at e
   obtain ⟨rfl,rfl,⟨⟨h1,h2⟩,h3⟩,h4⟩:=e
   exact Kh h1 h2 h3 h4
 ·cases e
theorem vz (key af ctx text:List Int):bJ key af ctx (fu key af ctx text)=true:=by
 unfold bJ
 have hl:=fk key af ctx text
 have hm:=iA key af 1 text
 rw [hl,Nat.add_sub_cancel]
 unfold fu
 rw [List.take_left' hm,List.drop_left' hm,decide_eq_true rfl,decide_eq_true (show 16≤text.length+16 by omega)]
 rfl
theorem FH {a b:Nat} (ha:a<2^8) (hb:b<2^8):cm .u8 (a:Int) (b:Int)=((a^^^b:Nat):Int):=by
 unfold cm jy
 show IntKind.u8.wrap ((BitVec.ofInt 8 (a:Int)^^^BitVec.ofInt 8 (b:Int)).toNat:Int)=_
 rw [BitVec.ofInt_natCast,BitVec.ofInt_natCast,BitVec.toNat_xor,BitVec.toNat_ofNat,BitVec.toNat_ofNat,Nat.mod_eq_of_lt ha,Nat.mod_eq_of_lt hb,Fe.wrap_u8]
 have:=Nat.xor_lt_two_pow ha hb
 omega
theorem Ki (a b:Fin 256):cm .u8 (cm .u8 (a.val:Int) (b.val:Int)) (b.val:Int)=(a.val:Int):=by
 rw [FH (show a.val<2^8 from a.isLt) (show b.val<2^8 from b.isLt),FH (Nat.xor_lt_two_pow (show a.val<2^8 from a.isLt) (show b.val<2^8 from b.isLt)) (show b.val<2^8 from b.isLt),Nat.xor_assoc,Nat.xor_self,Nat.xor_zero]
theorem WQ (key af:List Int) (n:Int) (i:Nat):0≤(Cc.fq key af n).getD i 0∧(Cc.fq key af n).getD i 0<256:=by
 rw [List.getD_eq_getElem?_getD]
 cases e:(Cc.fq key af n)[i]? with
 |none=>exact ⟨by decide,by decide⟩
 |some x=>
  have hx:=List.mem_of_getElem? e
  simp only [Cc.fq,aD,Cc.WR,List.mem_map] at hx
  obtain ⟨j,_,rfl⟩:=hx
  show 0≤IntKind.u8.wrap _∧IntKind.u8.wrap _<256
  rw [Fe.wrap_u8]
  exact ⟨Int.emod_nonneg _ (by decide),Int.emod_lt_of_pos _ (by decide)⟩
theorem Kj {key af text:List Int} (n:Int) (h:∀x∈text,0≤x∧x<256):Cc.cE key af n (Cc.cE key af n text)=text:=by
 have hl:=iA key af n text
 apply List.ext_getElem?
 intro i
 by_cases hi:i<text.length
 ·have e1:(Cc.cE key af n text).getD i 0=Cc.Dv key af n text i:=by
   unfold Cc.cE
   rw [List.getD_eq_getElem?_getD,List.getElem?_map,List.getElem?_range hi];rfl
  have ht:=h text[i] (List.getElem_mem _)
  have hp:=WQ key af (n+(i/64:Nat)) (i%64)
  rw [Cc.cE,hl,List.getElem?_map,List.getElem?_range hi,List.getElem?_eq_getElem hi,Option.map_some]
  congr 1
  show cm .u8 ((Cc.cE key af n text).getD i 0) _=_
  rw [e1,Cc.Dv,List.getD_eq_getElem?_getD,List.getElem?_eq_getElem hi,Option.getD_some]
  generalize (Cc.fq key af (n+(i/64:Nat))).getD (i%64) 0=p at*
  generalize text[i]=t at*
  have:=Ki ⟨t.toNat,by omega⟩ ⟨p.toNat,by omega⟩
  simp only [Int.toNat_of_nonneg ht.1,Int.toNat_of_nonneg hp.1] at this
  exact this
 ·rw [List.getElem?_eq_none (by rw [iA,hl];omega),List.getElem?_eq_none (by omega)]
theorem yl {key af ctx text:List Int} (h:∀x∈text,0≤x∧x<256):cn key af (fu key af ctx text)=text:=by
 unfold cn
 have hm:=iA key af 1 text
 rw [fk,Nat.add_sub_cancel]
 unfold fu
 rw [List.take_left' hm]
 exact Kj 1 h
end Go.Proofs.YtibfpjeeanppjaaGreat.Ae
end
