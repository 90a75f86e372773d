/- This file holds the texts R3D, R3E, a section each. No conditions beyond those in the theorems. -/
import Derived.Test.YtibfpjeeanppjaaGreatYR3C
import Derived.Test.YtibfpjeeanppjaaGreatYCcB
set_option linter.all false
set_option maxRecDepth 100000
section
namespace Go.Proofs.YtibfpjeeanppjaaGreat.R3
open Go Go.Sy Sh
noncomputable def pqB:Code:=aE Tryz.f117
noncomputable def pqC (f:Nat→Option Bool):bu:=mk (P:=Tryz.prog) [quE,woE] [] f
theorem nG (f:Nat→Option Bool):ag Tryz.prog (pqC f):=ah _ au.nil _ _
noncomputable def Qd (key k2 k3:List Int) (n:Int) (s:List Int):List Blk:=[.b [.ints .u8 32 key],.b [.ints .u8 64 Cc.z64],.b [.ints .u8 64 Cc.z64],.g none,.b [.ints .u32 16 s],.b [.ints .u32 8 k2],.b [.ints .u32 1 [V n]],.b [.ints .u32 3 k3]]
noncomputable def Qe (bs:List Blk) (x:List Int) (i:Int):St:=⟨slotsOf 105 [(6,.ptr 1 0 0),(7,.int .i64 0),(8,.ptr 2 0 0),(9,.sl 4 0 0 1 16 16 false true),(10,.sl 8 0 0 1 16 16 false true),(11,.int .i64 i)],bs++[.b [.ints .u32 16 x]],true⟩
def Tt (key af:List Int) (n:Int):List Int:=[1634760805,857760878,2036477234,1797285236]++(List.range 8).map (wdQ key)++[V n]++(List.range 3).map (wdQ af)
def Bj:List (Nat×Nat×Nat×Nat)→List Int→Bool→Bool
 | [],_,ob=>ob
 |q::qs,x,ob=>Bj qs (mZ x q) (aa ob (aa true (decide (x.length=16)&&true)))
def Tu (x:List Int):List Int:=Cc.UR.foldl mZ x
def f3:Nat→Option Bool:=fun i=>if i=17||i=21||i=24 then some false else none
section
variable (key af k2 k3 s x:List Int) (n i:Int)
theorem Tv:(aW Tryz.prog (pqC f3) 60 0 12 (atoms pqB) ⟨aO Tryz.f117.ntmps [.agg [.ints .u8 32 (aH 32 key)],.ro false .u8 (aH 12 af),.int .i64 n],[],true⟩).bind (St.cut [6,7,8,9,10,11] 9)=
  some {Qe (Qd (aH 32 key) (gK (aH 32 key) 8) (gK (aH 12 af) 3) n (Tt (aH 32 key) (aH 12 af) n)) (Tt (aH 32 key) (aH 12 af) n) 0 with ob:=aa (aa true (!decide (n<0))) (!decide (n>4294967295))}:=by kernel_rfl
theorem Z1:(exec Tryz.prog (pqC fun i=>if i=46 then some true else none) 60 0 (inner (inner (aA 12 pqB))) (Qe (Qd key k2 k3 n s) x i)).bind (fun r=>(r.2.cut [6,7,8,9,10,11] 9).map fun q=>(r.1,q))=
  some (.normal,{Qe (Qd key k2 k3 n s) (Tu x) (IntKind.i64.wrap (i+1)) with ob:=Bj Cc.UR x (aa true (decide (i<10)))}):=by kernel_rfl
theorem Z2:(exec Tryz.prog (pqC fun i=>if i=46 then some false else none) 60 0 (inner (inner (aA 12 pqB))) (Qe (Qd key k2 k3 n s) x i)).bind (fun r=>(r.2.cut [6,7,8,9,10,11] 9).map fun q=>(r.1,q))=
  some (.exit 0,{Qe (Qd key k2 k3 n s) x i with ob:=aa true (!decide (i<10))}):=by kernel_rfl
end
theorem Dc (x:List Int) (q:Nat×Nat×Nat×Nat):(mZ x q).length=x.length:=by simp [mZ]
theorem iz:∀(qs:List (Nat×Nat×Nat×Nat)) {x:List Int} {ob:Bool},x.length=16→ob=true→Bj qs x ob=true
 | [],_,_,_,h=>h
 |q::qs,x,ob,hx,h=>iz qs (by rw [Dc,hx]) (by rw [h,hx];rfl)
theorem Oq (x:List Int):Tu x=Cc.dbl x:=by
 have:∀(qs:List (Nat×Nat×Nat×Nat)) (x:List Int),qs.foldl mZ x=qs.foldl Cc.qst x:=fun qs=>by
  induction qs with
  |nil=>intro x;rfl
  |cons q qs ih=>intro x;rw [List.foldl_cons,List.foldl_cons,Z0,ih]
 unfold Tu Cc.dbl
 rw [this Cc.UR x]
theorem ze (x:List Int):(Cc.dbl x).length=x.length:=by
 have:∀(qs:List (Nat×Nat×Nat×Nat)) (x:List Int),(qs.foldl mZ x).length=x.length:=fun qs=>by
  induction qs with
  |nil=>intro x;rfl
  |cons q qs ih=>intro x;rw [List.foldl_cons,ih,Dc]
 rw [←Oq]
 unfold Tu
 rw [this Cc.UR x]
theorem jz (x:List Int):∀j,(Cc.iS x j).length=x.length
 |0=>rfl
 |j+1=>by rw [Cc.iS,ze,jz x j]
theorem Z3 {key af:List Int} (hk:∀z∈key,0≤z∧z<256) (hn:∀z∈af,0≤z∧z<256) (n:Int):Tt key af n=Cc.Dw key af n:=by
 unfold Tt Cc.Dw
 rw [List.map_congr_left (fun j _=>V3 hk j),List.map_congr_left (fun j _=>V3 hn j)]
theorem uN (key af:List Int) (n:Int):(Cc.Dw key af n).length=16:=by simp [Cc.Dw]
theorem Jn {key af k2 k3 s x:List Int} {n:Int} (ht:∀s' y,bf Tryz.prog none 0 ((atoms (aE Tryz.f117)).drop 13) (Qe (Qd key k2 k3 n (aH 16 s)) (aH 16 x) 10) y s'→
   bf Tryz.prog none 0 (atoms (aE Tryz.f117)) ⟨aO Tryz.f117.ntmps [.agg [.ints .u8 32 key],.ro false .u8 af,.int .i64 n],[],true⟩ y s'):
  ai Tryz.prog 117 [.agg [.ints .u8 32 key],.ro false .u8 af,.int .i64 n] [] (.aT [.agg [.ints .u8 64 (Cc.WR (aH 16 s) (aH 16 x))],.int .i64 0]) []:=
 ai.cu (nG fun _=>none) 200 13 0 Tryz.func117 (by simp) rfl ht (p:=true) (by kernel_rfl) rfl rfl rfl
theorem nq {key af:List Int} {n:Int} (hk:key.length=32) (Mx:∀z∈key,0≤z∧z<256) (hn:af.length=12) (hnb:∀z∈af,0≤z∧z<256) (h0:0≤n) (h1:n≤4294967295):
  ai Tryz.prog 117 [.agg [.ints .u8 32 key],.ro false .u8 af,.int .i64 n] [] (.aT [.agg [.ints .u8 64 (Cc.fq key af n)],.int .i64 0]) []:=by
 have ek:aH 32 key=key:=aG hk
 have en:aH 12 af=af:=aG hn
 have hh:=Tv key af n
 rw [ek,en,Z3 Mx hnb,decide_eq_false (show ¬n<0 by omega),decide_eq_false (show ¬n>4294967295 by omega)] at hh
 have hs:=uN key af n
 generalize hS:Cc.Dw key af n=s at hh hs
 have hX:=jz s 10
 have bY:Tr Tryz.prog none 0 (aA 12 pqB) (Qe (Qd key (gK key 8) (gK af 3) n s) s 0) .normal (Qe (Qd key (gK key 8) (gK af 3) n s) (Cc.iS s 10) 10):=by
  refine Tr.loop (P:=Tryz.prog) (ro:=none) (k:=0) 0 (c:=aA 12 pqB) (by kernel_rfl) (fun j:Nat=>Qe (Qd key (gK key 8) (gK af 3) n s) (Cc.iS s j) j) 10 (s':=Qe (Qd key (gK key 8) (gK af 3) n s) (Cc.iS s 10) 10) (fun j hj=>?_) ?_
  ·have e:=Z1 key (gK key 8) (gK af 3) s (Cc.iS s j) n j
   rw [iz _ (by rw [jz,hs]) (by rw [decide_eq_true (show (j:Int)<10 by omega)];rfl),Oq,wrap_i64 _ (by omega) (by omega)] at e
   exact Tr.cut (nG _) 60 _ 9 (by omega) e rfl
  ·have e:=Z2 key (gK key 8) (gK af 3) s (Cc.iS s 10) n 10
   exact Tr.cut (nG _) 60 _ 9 (by omega) e rfl
 have eX:aH 16 (Cc.iS s 10)=Cc.iS s 10:=aG (by rw [hX,hs])
 have eS:aH 16 s=s:=aG hs
 have hpc:Cc.fq key af n=Cc.WR s (Cc.iS s 10):=by rw [Cc.fq,aD,hS]
 rw [hpc]
 have zg:=Jn (key:=key) (af:=af) (k2:=gK key 8) (k3:=gK af 3) (s:=s) (x:=Cc.iS s 10) (n:=n) (fun s' y h=>by
  rw [eX,eS] at h
  exact bf.items (nG f3) 60 12 _ 9 (by simp) hh rfl (by decide) (bf.item 12 (by decide) bY h))
 rw [eX,eS] at zg
 exact zg
theorem E3 {x:List Int} (h:bE x=true):∀z∈x,0≤z∧z<256:=fun z hz=>by
 unfold bE at h
 rw [List.all_eq_true] at h
 simpa using h z hz
noncomputable def xy:List SV→Option (SV×List Blk×Bool)
 | [.agg [.ints .u8 32 key],.ro false .u8 af,.int .i64 n]=>some (.aT [.agg [.ints .u8 64 (Cc.fq key af n)],.int .i64 0],[],decide (key.length=32)&&bE key&&decide (af.length=12)&&bE af&&decide (0≤n)&&decide (n≤4294967295))
 |_=>none
noncomputable def tj:Entry Tryz.prog:=.val 117 _ Tryz.func117 (by decide) rfl true 0 xy fun vs v new e=>by
 unfold xy at e
 split at e
 ·simp only [Option.some.injEq,Prod.mk.injEq,Bool.and_eq_true,decide_eq_true_eq] at e
  obtain ⟨rfl,rfl,⟨⟨⟨⟨h1,h2⟩,h3⟩,h4⟩,h5⟩,h6⟩:=e
  exact nq h1 (E3 h2) h3 (E3 h4) h5 h6
 ·cases e
end Go.Proofs.YtibfpjeeanppjaaGreat.R3
end
section
namespace Go.Proofs.YtibfpjeeanppjaaGreat.R3
open Go Go.Sy Sh
noncomputable def miB:Code:=aE Tryz.f76
noncomputable def miC (b:Bool):bu:=mk (P:=Tryz.prog) [tj] [] fun i=>if i=29 then some b else if i=56 then some true else none
theorem AM (b:Bool):ag Tryz.prog (miC b):=ah _ au.nil _ _
noncomputable def Qf (m:Nat) (key af text p l:List Int) (n i:Int):St:=⟨slotsOf 58 [(1,.ro false .u8 af),(2,.int .i64 n),(3,.ro false .u8 text),(4,.ptr 0 0 0),(12,.sl 2 0 0 1 m m false true),(13,.int .i64 i)],[.b [.ints .u8 32 key],.b [.ints .u8 64 p],.b [.ints .u8 m l]],true⟩
noncomputable def ake (key af text p:List Int) (n:Int):St:=⟨slotsOf 58 [(1,.ro false .u8 af),(2,.int .i64 n),(3,.ro false .u8 text),(4,.ptr 0 0 0),(12,.nl (.slice none 0 0)),(13,.int .i64 0)],[.b [.ints .u8 32 key],.b [.ints .u8 64 p]],true⟩
def AN (key af:List Int) (n:Int):Bool:=decide (key.length=32)&&bE key&&decide (af.length=12)&&bE af&&decide (0≤n)&&decide (n≤4294967295)
def miN (n i:Int):Int:=J (n+J (i.tdiv 64))
noncomputable def miV (key af text:List Int) (n i:Int):Int:=cm .u8 (text.getD i.toNat 0) ((Cc.fq key af (miN n i)).getD (0+(i.tmod 64).toNat) 0)
def miO (key af:List Int) (k:Nat) (n i:Int):Bool:=aa (aa (aa (aa (aa (aa true (decide (i<(k:Int)))) (aa true (AN key af (miN n i)))) (cL i k)) (decide (i.toNat<k))) (cL (i.tmod 64) 64)) (decide (0+(i.tmod 64).toNat<64))
section
variable (m:Nat) (key af text p l:List Int) (n i:Int)
theorem Tw:(aW Tryz.prog (miC true) 60 0 6 (atoms miB) ⟨aO Tryz.f76.ntmps [.agg [.ints .u8 32 key],.ro false .u8 af,.int .i64 n,.ro false .u8 text],[],true⟩).bind (St.cut [1,2,3,4,12,13] 2)=
  some {ake key af text (Cc.fq key af n) n with ob:=aa true (aa true (AN key af n))}:=by kernel_rfl
theorem Z4:(exec Tryz.prog (miC true) 60 0 (inner (inner (aA 6 miB))) (Qf m key af text p l n i)).bind (fun r=>(r.2.cut [1,2,3,4,12,13] 3).map fun q=>(r.1,q))=
  some (.normal,{Qf (m+1) key af text p (l++[miV key af text n i]) n (J (i+1)) with ob:=aa (miO key af text.length n i) (xN l.length m)}):=by kernel_rfl
theorem Z5:(exec Tryz.prog (miC false) 60 0 (inner (inner (aA 6 miB))) (Qf m key af text p l n i)).bind (fun r=>(r.2.cut [1,2,3,4,12,13] 3).map fun q=>(r.1,q))=
  some (.exit 0,{Qf m key af text p l n i with ob:=aa true (!decide (i<(text.length:Int)))}):=by kernel_rfl
end
theorem DV {key af text:List Int} {n:Int} (hk:key.length=32) (Mx:bE key=true) (hn:af.length=12) (hnb:bE af=true) (h0:0≤n) (h1:n+(text.length/64:Nat)≤4294967295) (ht:text.length<274877906000):
  ai Tryz.prog 76 [.agg [.ints .u8 32 key],.ro false .u8 af,.int .i64 n,.ro false .u8 text] [] (.aT [.sl 0 0 0 1 text.length text.length false true,.int .i64 0]) [.b [.ints .u8 text.length (Cc.cE key af n text)]]:=by
 have hpo:∀q:Int,0≤q→q≤4294967295→AN key af q=true:=fun q a b=>by unfold AN;rw [hk,Mx,hn,hnb,decide_eq_true a,decide_eq_true b];rfl
 have hM:∀j:Nat,((List.range j).map (Cc.Dv key af n text)).length=j:=fun j=>by simp
 have bY:Tr Tryz.prog none 0 (aA 6 miB) (Qf 0 key af text (Cc.fq key af n) [] n 0) .normal (Qf text.length key af text (Cc.fq key af n) (Cc.cE key af n text) n text.length):=by
  have zg:=Tr.loop (P:=Tryz.prog) (ro:=none) (k:=0) 0 (c:=aA 6 miB) (by kernel_rfl) (fun j:Nat=>Qf j key af text (Cc.fq key af n) ((List.range j).map (Cc.Dv key af n text)) n j) text.length (s':=Qf text.length key af text (Cc.fq key af n) (Cc.cE key af n text) n text.length) (fun j hj=>?_) ?_
  ·exact zg
  ·have e:=Z4 j key af text (Cc.fq key af n) ((List.range j).map (Cc.Dv key af n text)) n j
   have ed:((j:Nat):Int).tdiv 64=((j/64:Nat):Int):=rfl
   have em:((j:Nat):Int).tmod 64=((j%64:Nat):Int):=rfl
   have eN:miN n j=n+(j/64:Nat):=by unfold miN J;rw [ed,wrap_i64 ((j/64:Nat):Int) (by omega) (by omega),wrap_i64 (n+((j/64:Nat):Int)) (by omega) (by omega)]
   have hv:miV key af text n j=Cc.Dv key af n text j:=by unfold miV Cc.Dv;rw [eN,em,Int.toNat_natCast,Int.toNat_natCast,Nat.zero_add]
   have ho:miO key af text.length n j=true:=by
    unfold miO
    rw [eN,hpo (n+((j/64:Nat):Int)) (by omega) (by omega),em]
    simp only [av,decide_eq_true_eq,true_and,and_true,Int.toNat_natCast]
    have apm:j%64<64:=Nat.mod_lt _ (by decide)
    refine ⟨⟨⟨⟨by omega,aK (by omega) (by omega)⟩,by omega⟩,aK (by omega) (by omega)⟩,?_⟩
    omega
   rw [hv,ho,hM,cG (by omega),show J ((j:Int)+1)=((j+1:Nat):Int) from wrap_i64 _ (by omega) (by omega)] at e
   refine Tr.post (Tr.cut (AM true) 60 _ 3 (by omega) e rfl) (bq.same rfl ?_)
   show [_,_,Blk.b [SV.ints .u8 (j+1) ((List.range j).map (Cc.Dv key af n text)++[Cc.Dv key af n text j])]]=[_,_,Blk.b [SV.ints .u8 (j+1) ((List.range (j+1)).map (Cc.Dv key af n text))]]
   rw [List.range_succ,List.map_append];rfl
  ·have e:=Z5 text.length key af text (Cc.fq key af n) (Cc.cE key af n text) n text.length
   rw [decide_eq_false (show ¬((text.length:Int)<text.length) by omega)] at e
   exact Tr.cut (AM false) 60 _ 3 (by omega) e rfl
 have k:ai Tryz.prog 76 [.agg [.ints .u8 32 key],.ro false .u8 af,.int .i64 n,.ro false .u8 text] [] (.aT [.sl 2 0 0 1 text.length text.length false true,.int .i64 0]) [.b [.ints .u8 32 key],.b [.ints .u8 64 (Cc.fq key af n)],.b [.ints .u8 text.length (Cc.cE key af n text)]]:=by
  refine ai.cu (AM true) 60 7 3 Tryz.func76 (by simp) rfl (fun s' x h=>?_) (s:=Qf text.length key af text (Cc.fq key af n) (Cc.cE key af n text) n text.length) (p:=true) (by kernel_rfl) rfl rfl rfl
  have e:=Tw key af text n
  rw [hpo n h0 (by omega)] at e
  refine bf.items (AM true) 60 6 _ 2 (by simp) e rfl (by decide) ?_
  exact bf.pre (s1:=Qf 0 key af text (Cc.fq key af n) [] n 0) (bf.item 6 (by decide) bY h) ((bq.nothing 12 .u8 false true rfl).trans (bq.same rfl rfl)) (by decide)
 exact ai.KE [2] k (by kernel_rfl)
end Go.Proofs.YtibfpjeeanppjaaGreat.R3
end
