/- This file holds the texts R3D, R3E, a section each. No conditions beyond those in the theorems. -/
import Derived.Test.YtibfpjeeanppjaaGreatUR3C
import Derived.Test.YtibfpjeeanppjaaGreatUCcB
set_option linter.all false
set_option maxRecDepth 100000
section
namespace Go.Proofs.YtibfpjeeanppjaaGreat.R3
open Go Go.Sy Sh
noncomputable def pqB:Code:=aH Tryz.f117
noncomputable def Yl (f:Nat→Option Bool):bK:=mk (P:=Tryz.prog) [quE,woE] [] f
theorem mD (f:Nat→Option Bool):ag Tryz.prog (Yl f):=ai _ aF.nil _ _
noncomputable def ND (key k2 k3:List Int) (n:Int) (s:List Int):List Blk:=[.b [.ints .u8 32 key],.b [.ints .u8 64 Cc.z64],.b [.ints .u8 64 Cc.z64],.g none,.b [.ints .u32 16 s],.b [.ints .u32 8 k2],.b [.ints .u32 1 [V n]],.b [.ints .u32 3 k3]]
noncomputable def NF (bs:List Blk) (x:List Int) (i:Int):St:=⟨slotsOf 105 [(6,.ptr 1 0 0),(7,.int .i64 0),(8,.ptr 2 0 0),(9,.sl 4 0 0 1 16 16 false true),(10,.sl 8 0 0 1 16 16 false true),(11,.int .i64 i)],bs++[.b [.ints .u32 16 x]],true⟩
def Qy (key af:List Int) (n:Int):List Int:=[1634760805,857760878,2036477234,1797285236]++(List.range 8).map (Yy key)++[V n]++(List.range 3).map (Yy af)
def vM:List (Nat×Nat×Nat×Nat)→List Int→Bool→Bool
 | [],_,ob=>ob
 |q::qs,x,ob=>vM qs (lW x q) (aa ob (aa true (decide (x.length=16)&&true)))
def Qz (x:List Int):List Int:=Cc.So.foldl lW x
def f3:Nat→Option Bool:=fun i=>if i=17||i=21||i=24 then some false else none
section
variable (key af k2 k3 s x:List Int) (n i:Int)
theorem QA:(az Tryz.prog (Yl f3) 60 0 12 (atoms pqB) ⟨aT Tryz.f117.ntmps [.agg [.ints .u8 32 (aO 32 key)],.ro false .u8 (aO 12 af),.int .i64 n],[],true⟩).bind (St.cut [6,7,8,9,10,11] 9)=
  some {NF (ND (aO 32 key) (gf (aO 32 key) 8) (gf (aO 12 af) 3) n (Qy (aO 32 key) (aO 12 af) n)) (Qy (aO 32 key) (aO 12 af) n) 0 with ob:=aa (aa true (!decide (n<0))) (!decide (n>4294967295))}:=by kernel_rfl
theorem WS:(exec Tryz.prog (Yl fun i=>if i=46 then some true else none) 60 0 (inner (inner (ak 12 pqB))) (NF (ND key k2 k3 n s) x i)).bind (fun r=>(r.2.cut [6,7,8,9,10,11] 9).map fun q=>(r.1,q))=
  some (.normal,{NF (ND key k2 k3 n s) (Qz x) (IntKind.i64.wrap (i+1)) with ob:=vM Cc.So x (aa true (decide (i<10)))}):=by kernel_rfl
theorem WT:(exec Tryz.prog (Yl fun i=>if i=46 then some false else none) 60 0 (inner (inner (ak 12 pqB))) (NF (ND key k2 k3 n s) x i)).bind (fun r=>(r.2.cut [6,7,8,9,10,11] 9).map fun q=>(r.1,q))=
  some (.exit 0,{NF (ND key k2 k3 n s) x i with ob:=aa true (!decide (i<10))}):=by kernel_rfl
end
theorem A2 (x:List Int) (q:Nat×Nat×Nat×Nat):(lW x q).length=x.length:=by simp [lW]
theorem cN:∀(qs:List (Nat×Nat×Nat×Nat)) {x:List Int} {ob:Bool},x.length=16→ob=true→vM qs x ob=true
 | [],_,_,_,h=>h
 |q::qs,x,ob,hx,h=>cN qs (by rw [A2,hx]) (by rw [h,hx];rfl)
theorem Ma (x:List Int):Qz x=Cc.dbl x:=by
 have:∀(qs:List (Nat×Nat×Nat×Nat)) (x:List Int),qs.foldl lW x=qs.foldl Cc.X9 x:=fun qs=>by
  induction qs with
  |nil=>intro x;rfl
  |cons q qs ih=>intro x;rw [List.foldl_cons,List.foldl_cons,WR,ih]
 unfold Qz Cc.dbl
 rw [this Cc.So x]
theorem xy (x:List Int):(Cc.dbl x).length=x.length:=by
 have:∀(qs:List (Nat×Nat×Nat×Nat)) (x:List Int),(qs.foldl lW x).length=x.length:=fun qs=>by
  induction qs with
  |nil=>intro x;rfl
  |cons q qs ih=>intro x;rw [List.foldl_cons,ih,A2]
 rw [←Ma]
 unfold Qz
 rw [this Cc.So x]
theorem jd (x:List Int):∀j,(Cc.gS x j).length=x.length
 |0=>rfl
 |j+1=>by rw [Cc.gS,xy,jd x j]
theorem WU {key af:List Int} (hk:∀z∈key,0≤z∧z<256) (hn:∀z∈af,0≤z∧z<256) (n:Int):Qy key af n=Cc.y9 key af n:=by
 unfold Qy Cc.y9
 rw [List.map_congr_left (fun j _=>Te hk j),List.map_congr_left (fun j _=>Te hn j)]
theorem sX (key af:List Int) (n:Int):(Cc.y9 key af n).length=16:=by simp [Cc.y9]
theorem GF {key af k2 k3 s x:List Int} {n:Int} (ht:∀s' y,aG Tryz.prog none 0 ((atoms (aH Tryz.f117)).drop 13) (NF (ND key k2 k3 n (aO 16 s)) (aO 16 x) 10) y s'→
   aG Tryz.prog none 0 (atoms (aH Tryz.f117)) ⟨aT Tryz.f117.ntmps [.agg [.ints .u8 32 key],.ro false .u8 af,.int .i64 n],[],true⟩ y s'):
  aj Tryz.prog 117 [.agg [.ints .u8 32 key],.ro false .u8 af,.int .i64 n] [] (.bk [.agg [.ints .u8 64 (Cc.RR (aO 16 s) (aO 16 x))],.int .i64 0]) []:=
 aj.cg (mD fun _=>none) 200 13 0 Tryz.func117 (by simp) rfl ht (p:=true) (by kernel_rfl) rfl rfl rfl
theorem mq {key af:List Int} {n:Int} (hk:key.length=32) (KZ:∀z∈key,0≤z∧z<256) (hn:af.length=12) (hnb:∀z∈af,0≤z∧z<256) (h0:0≤n) (h1:n≤4294967295):
  aj Tryz.prog 117 [.agg [.ints .u8 32 key],.ro false .u8 af,.int .i64 n] [] (.bk [.agg [.ints .u8 64 (Cc.eA key af n)],.int .i64 0]) []:=by
 have ek:aO 32 key=key:=aJ hk
 have en:aO 12 af=af:=aJ hn
 have hh:=QA key af n
 rw [ek,en,WU KZ hnb,decide_eq_false (show ¬n<0 by omega),decide_eq_false (show ¬n>4294967295 by omega)] at hh
 have hs:=sX key af n
 generalize hS:Cc.y9 key af n=s at hh hs
 have hX:=jd s 10
 have bS:Tr Tryz.prog none 0 (ak 12 pqB) (NF (ND key (gf key 8) (gf af 3) n s) s 0) .normal (NF (ND key (gf key 8) (gf af 3) n s) (Cc.gS s 10) 10):=by
  refine Tr.loop (P:=Tryz.prog) (ro:=none) (k:=0) 0 (c:=ak 12 pqB) (by kernel_rfl) (fun j:Nat=>NF (ND key (gf key 8) (gf af 3) n s) (Cc.gS s j) j) 10 (s':=NF (ND key (gf key 8) (gf af 3) n s) (Cc.gS s 10) 10) (fun j hj=>?_) ?_
  ·have e:=WS key (gf key 8) (gf af 3) s (Cc.gS s j) n j
   rw [cN _ (by rw [jd,hs]) (by rw [decide_eq_true (show (j:Int)<10 by omega)];rfl),Ma,wrap_i64 _ (by omega) (by omega)] at e
   exact Tr.cut (mD _) 60 _ 9 (by omega) e rfl
  ·have e:=WT key (gf key 8) (gf af 3) s (Cc.gS s 10) n 10
   exact Tr.cut (mD _) 60 _ 9 (by omega) e rfl
 have eX:aO 16 (Cc.gS s 10)=Cc.gS s 10:=aJ (by rw [hX,hs])
 have eS:aO 16 s=s:=aJ hs
 have hpc:Cc.eA key af n=Cc.RR s (Cc.gS s 10):=by rw [Cc.eA,aq,hS]
 rw [hpc]
 have xz:=GF (key:=key) (af:=af) (k2:=gf key 8) (k3:=gf af 3) (s:=s) (x:=Cc.gS s 10) (n:=n) (fun s' y h=>by
  rw [eX,eS] at h
  exact aG.items (mD f3) 60 12 _ 9 (by simp) hh rfl (by decide) (aG.item 12 (by decide) bS h))
 rw [eX,eS] at xz
 exact xz
theorem Mb {x:List Int} (h:dD x=true):∀z∈x,0≤z∧z<256:=fun z hz=>by
 unfold dD at h
 rw [List.all_eq_true] at h
 simpa using h z hz
noncomputable def vr:List SV→Option (SV×List Blk×Bool)
 | [.agg [.ints .u8 32 key],.ro false .u8 af,.int .i64 n]=>some (.bk [.agg [.ints .u8 64 (Cc.eA key af n)],.int .i64 0],[],decide (key.length=32)&&dD key&&decide (af.length=12)&&dD af&&decide (0≤n)&&decide (n≤4294967295))
 |_=>none
noncomputable def rD:Entry Tryz.prog:=.val 117 _ Tryz.func117 (by decide) rfl true 0 vr fun vs v new e=>by
 unfold vr at e
 split at e
 ·simp only [Option.some.injEq,Prod.mk.injEq,Bool.and_eq_true,decide_eq_true_eq] at e
  obtain ⟨rfl,rfl,⟨⟨⟨⟨h1,h2⟩,h3⟩,h4⟩,h5⟩,h6⟩:=e
  exact mq h1 (Mb h2) h3 (Mb h4) h5 h6
 ·cases e
end Go.Proofs.YtibfpjeeanppjaaGreat.R3
end
section
namespace Go.Proofs.YtibfpjeeanppjaaGreat.R3
open Go Go.Sy Sh
noncomputable def miB:Code:=aH Tryz.f76
noncomputable def miC (b:Bool):bK:=mk (P:=Tryz.prog) [rD] [] fun i=>if i=29 then some b else if i=56 then some true else none
theorem yJ (b:Bool):ag Tryz.prog (miC b):=ai _ aF.nil _ _
noncomputable def NG (m:Nat) (key af text p l:List Int) (n i:Int):St:=⟨slotsOf 58 [(1,.ro false .u8 af),(2,.int .i64 n),(3,.ro false .u8 text),(4,.ptr 0 0 0),(12,.sl 2 0 0 1 m m false true),(13,.int .i64 i)],[.b [.ints .u8 32 key],.b [.ints .u8 64 p],.b [.ints .u8 m l]],true⟩
noncomputable def agx (key af text p:List Int) (n:Int):St:=⟨slotsOf 58 [(1,.ro false .u8 af),(2,.int .i64 n),(3,.ro false .u8 text),(4,.ptr 0 0 0),(12,.nl (.slice none 0 0)),(13,.int .i64 0)],[.b [.ints .u8 32 key],.b [.ints .u8 64 p]],true⟩
def yK (key af:List Int) (n:Int):Bool:=decide (key.length=32)&&dD key&&decide (af.length=12)&&dD af&&decide (0≤n)&&decide (n≤4294967295)
def miN (n i:Int):Int:=J (n+J (i.tdiv 64))
noncomputable def miV (key af text:List Int) (n i:Int):Int:=cj .u8 (text.getD i.toNat 0) ((Cc.eA key af (miN n i)).getD (0+(i.tmod 64).toNat) 0)
def miO (key af:List Int) (k:Nat) (n i:Int):Bool:=aa (aa (aa (aa (aa (aa true (decide (i<(k:Int)))) (aa true (yK key af (miN n i)))) (cK i k)) (decide (i.toNat<k))) (cK (i.tmod 64) 64)) (decide (0+(i.tmod 64).toNat<64))
section
variable (m:Nat) (key af text p l:List Int) (n i:Int)
theorem QB:(az Tryz.prog (miC true) 60 0 6 (atoms miB) ⟨aT Tryz.f76.ntmps [.agg [.ints .u8 32 key],.ro false .u8 af,.int .i64 n,.ro false .u8 text],[],true⟩).bind (St.cut [1,2,3,4,12,13] 2)=
  some {agx key af text (Cc.eA key af n) n with ob:=aa true (aa true (yK key af n))}:=by kernel_rfl
theorem WV:(exec Tryz.prog (miC true) 60 0 (inner (inner (ak 6 miB))) (NG m key af text p l n i)).bind (fun r=>(r.2.cut [1,2,3,4,12,13] 3).map fun q=>(r.1,q))=
  some (.normal,{NG (m+1) key af text p (l++[miV key af text n i]) n (J (i+1)) with ob:=aa (miO key af text.length n i) (tK l.length m)}):=by kernel_rfl
theorem WW:(exec Tryz.prog (miC false) 60 0 (inner (inner (ak 6 miB))) (NG m key af text p l n i)).bind (fun r=>(r.2.cut [1,2,3,4,12,13] 3).map fun q=>(r.1,q))=
  some (.exit 0,{NG m key af text p l n i with ob:=aa true (!decide (i<(text.length:Int)))}):=by kernel_rfl
end
theorem BT {key af text:List Int} {n:Int} (hk:key.length=32) (KZ:dD key=true) (hn:af.length=12) (hnb:dD af=true) (h0:0≤n) (h1:n+(text.length/64:Nat)≤4294967295) (ht:text.length<274877906000):
  aj Tryz.prog 76 [.agg [.ints .u8 32 key],.ro false .u8 af,.int .i64 n,.ro false .u8 text] [] (.bk [.sl 0 0 0 1 text.length text.length false true,.int .i64 0]) [.b [.ints .u8 text.length (Cc.cI key af n text)]]:=by
 have hpo:∀q:Int,0≤q→q≤4294967295→yK key af q=true:=fun q a b=>by unfold yK;rw [hk,KZ,hn,hnb,decide_eq_true a,decide_eq_true b];rfl
 have hM:∀j:Nat,((List.range j).map (Cc.vG key af n text)).length=j:=fun j=>by simp
 have bS:Tr Tryz.prog none 0 (ak 6 miB) (NG 0 key af text (Cc.eA key af n) [] n 0) .normal (NG text.length key af text (Cc.eA key af n) (Cc.cI key af n text) n text.length):=by
  have xz:=Tr.loop (P:=Tryz.prog) (ro:=none) (k:=0) 0 (c:=ak 6 miB) (by kernel_rfl) (fun j:Nat=>NG j key af text (Cc.eA key af n) ((List.range j).map (Cc.vG key af n text)) n j) text.length (s':=NG text.length key af text (Cc.eA key af n) (Cc.cI key af n text) n text.length) (fun j hj=>?_) ?_
  ·exact xz
  ·have e:=WV j key af text (Cc.eA key af n) ((List.range j).map (Cc.vG key af n text)) n j
   have ed:((j:Nat):Int).tdiv 64=((j/64:Nat):Int):=rfl
   have em:((j:Nat):Int).tmod 64=((j%64:Nat):Int):=rfl
   have eN:miN n j=n+(j/64:Nat):=by unfold miN J;rw [ed,wrap_i64 ((j/64:Nat):Int) (by omega) (by omega),wrap_i64 (n+((j/64:Nat):Int)) (by omega) (by omega)]
   have hv:miV key af text n j=Cc.vG key af n text j:=by unfold miV Cc.vG;rw [eN,em,Int.toNat_natCast,Int.toNat_natCast,Nat.zero_add]
   have ho:miO key af text.length n j=true:=by
    unfold miO
    rw [eN,hpo (n+((j/64:Nat):Int)) (by omega) (by omega),em]
    simp only [au,decide_eq_true_eq,true_and,and_true,Int.toNat_natCast]
    have ak3:j%64<64:=Nat.mod_lt _ (by decide)
    refine ⟨⟨⟨⟨by omega,aK (by omega) (by omega)⟩,by omega⟩,aK (by omega) (by omega)⟩,?_⟩
    omega
   rw [hv,ho,hM,cr (by omega),show J ((j:Int)+1)=((j+1:Nat):Int) from wrap_i64 _ (by omega) (by omega)] at e
   refine Tr.post (Tr.cut (yJ true) 60 _ 3 (by omega) e rfl) (aU.same rfl ?_)
   show [_,_,Blk.b [SV.ints .u8 (j+1) ((List.range j).map (Cc.vG key af n text)++[Cc.vG key af n text j])]]=[_,_,Blk.b [SV.ints .u8 (j+1) ((List.range (j+1)).map (Cc.vG key af n text))]]
   rw [List.range_succ,List.map_append];rfl
  ·have e:=WW text.length key af text (Cc.eA key af n) (Cc.cI key af n text) n text.length
   rw [decide_eq_false (show ¬((text.length:Int)<text.length) by omega)] at e
   exact Tr.cut (yJ false) 60 _ 3 (by omega) e rfl
 have k:aj Tryz.prog 76 [.agg [.ints .u8 32 key],.ro false .u8 af,.int .i64 n,.ro false .u8 text] [] (.bk [.sl 2 0 0 1 text.length text.length false true,.int .i64 0]) [.b [.ints .u8 32 key],.b [.ints .u8 64 (Cc.eA key af n)],.b [.ints .u8 text.length (Cc.cI key af n text)]]:=by
  refine aj.cg (yJ true) 60 7 3 Tryz.func76 (by simp) rfl (fun s' x h=>?_) (s:=NG text.length key af text (Cc.eA key af n) (Cc.cI key af n text) n text.length) (p:=true) (by kernel_rfl) rfl rfl rfl
  have e:=QB key af text n
  rw [hpo n h0 (by omega)] at e
  refine aG.items (yJ true) 60 6 _ 2 (by simp) e rfl (by decide) ?_
  exact aG.pre (s1:=NG 0 key af text (Cc.eA key af n) [] n 0) (aG.item 6 (by decide) bS h) ((aU.nothing 12 .u8 false true rfl).trans (aU.same rfl rfl)) (by decide)
 exact aj.R8 [2] k (by kernel_rfl)
end Go.Proofs.YtibfpjeeanppjaaGreat.R3
end
