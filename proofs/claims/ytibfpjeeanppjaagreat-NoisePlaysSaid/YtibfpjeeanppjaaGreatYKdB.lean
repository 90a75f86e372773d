/- This file holds the texts KdA, KdB, a section each. No conditions beyond those in the theorems. -/
import Derived.Test.YtibfpjeeanppjaaGreatYS2C
set_option linter.all false
set_option maxRecDepth 100000
section
namespace Go.Proofs.YtibfpjeeanppjaaGreat.Kd
open Go Go.Sy Sh
noncomputable def pdC (a:Bool):bu:=mk (P:=Tryz.prog) [S2.nj] [] fun i=>if i=10 then some a else none
theorem zn (a:Bool):ag Tryz.prog (pdC a):=ah _ au.nil _ _
noncomputable def pdM:Code:=aE Tryz.f145
noncomputable def pdK (key:List Int):List Int:=if (key.length:Int)>64 then S2.aq key else key
noncomputable def FT (k:List Int):List Int:=ng (List.replicate 64 0) 0 k (Nat.min k.length 64)
def UX (l:List Int) (w:Int):List Int:=(List.range 64).map fun i=>cm .u8 (l.getD i 0) w
noncomputable def jg (key:List Int) (w:Int):List Int:=gY (UX (FT (pdK key)) w)
theorem FU (key:List Int) (w:Int):(jg key w).length=64:=by rw [jg,aD];simp [UX]
noncomputable def pd1 (key l:List Int) (w:Int):St:=⟨slotsOf 33 [(1,.int .u8 w),(6,.sl 2 0 0 1 64 64 true true),(20,.int .i64 64),(21,.int .i64 0)],[.b [.ro false .u8 key],.b [.ints .u8 32 (S2.aq key)],.b [.ints .u8 64 l]],true⟩
noncomputable def pd0 (l:List Int) (w:Int):St:=⟨slotsOf 33 [(1,.int .u8 w),(6,.sl 0 0 0 1 64 64 true true),(20,.int .i64 64),(21,.int .i64 0)],[.b [.ints .u8 64 l]],true⟩
section
variable (key l:List Int) (w:Int)
theorem acN:(aW Tryz.prog (pdC true) 60 0 6 (atoms pdM) ⟨aO Tryz.f145.ntmps [.ro false .u8 key,.int .u8 w],[],true⟩).bind (St.cut [1,6,20,21] 3)=
  some ⟨slotsOf 33 [(1,.int .u8 w),(6,.sl 2 0 0 1 64 64 true true),(20,.int .i64 64),(21,.int .i64 0)],[.b [.ro false .u8 key],.b [.ints .u8 32 (S2.aq [key].flatten)],.b [.ints .u8 64 (ng (List.replicate 64 0) 0 (S2.aq [key].flatten) (Nat.min 32 64))]],
   aa (aa (aa true (decide ((key.length:Int)>64))) (aa true (decide ([key].flatten.length<274877900000)&&true))) (aa (decide ((S2.aq [key].flatten).length=32)&&true) (true&&decide (Nat.min 32 64≤(S2.aq [key].flatten).length)))⟩:=by kernel_rfl
theorem acO:(aW Tryz.prog (pdC false) 60 0 6 (atoms pdM) ⟨aO Tryz.f145.ntmps [.ro false .u8 key,.int .u8 w],[],true⟩).bind (St.cut [1,6,20,21] 1)=
  some {pd0 (FT key) w with ob:=aa (aa true (!decide ((key.length:Int)>64))) (aa true (true&&decide (0+Nat.min key.length 64≤64)&&decide (Nat.min key.length 64≤key.length)))}:=by kernel_rfl
end
theorem FV (k:List Int):(FT k).length=64:=pM (by simp) (by have h:Nat.min k.length 64≤64:=Nat.min_le_right _ _;generalize Nat.min k.length 64=m at*;omega) (Nat.min_le_left _ _)
theorem sy {key:List Int} {w:Int} (h:key.length<274877900000):ai Tryz.prog 145 [.ro false .u8 key,.int .u8 w] [] (.ro true .u8 (jg key w)) []:=by
 rw [jg,aD]
 unfold pdK
 split
 ·rename_i hk
  have hs:=S2.bn key
  have e:ng (List.replicate 64 0) 0 (S2.aq key) (Nat.min 32 64)=FT (S2.aq key):=by unfold FT;rw [hs]
  have hh:=acN key w
  rw [show [key].flatten=key by simp,e,hs,decide_eq_true hk,decide_eq_true h] at hh
  have k:ai Tryz.prog 145 [.ro false .u8 key,.int .u8 w] [] (.sl 2 0 0 1 64 64 true true) [.b [.ro false .u8 key],.b [.ints .u8 32 (S2.aq key)],.b [.ints .u8 64 (UX (FT (S2.aq key)) w)]]:=by
   refine ai.cu (zn true) 200 6 3 Tryz.func145 (by simp) rfl (fun s' x hx=>?_) (s:=pd1 key (aH 64 (FT (S2.aq key))) w) (p:=true) ?_ rfl rfl rfl
   ·refine bf.items (zn true) 60 6 _ 3 (by simp) hh rfl (by decide) ?_
    exact bf.pre hx (bq.same rfl (by rw [aG (FV _)];rfl)) (by decide)
   ·generalize FT (S2.aq key)=l
    kernel_rfl
  exact ai.fz 2 0 (by simp) (by simp) k (u:=.ro true .u8 (UX (FT (S2.aq key)) w)) (h2:=[]) (p:=true) (by kernel_rfl) rfl
 ·rename_i hk
  have hh:=acO key w
  have h1:Nat.min key.length 64≤64:=Nat.min_le_right _ _
  have h2:Nat.min key.length 64≤key.length:=Nat.min_le_left _ _
  have h3:0+Nat.min key.length 64≤64:=by generalize Nat.min key.length 64=m at*;omega
  rw [decide_eq_false hk,decide_eq_true h3,decide_eq_true h2] at hh
  have k:ai Tryz.prog 145 [.ro false .u8 key,.int .u8 w] [] (.sl 0 0 0 1 64 64 true true) [.b [.ints .u8 64 (UX (FT key) w)]]:=by
   refine ai.cu (zn false) 200 6 1 Tryz.func145 (by simp) rfl (fun s' x hx=>?_) (s:=pd0 (aH 64 (FT key)) w) (p:=true) ?_ rfl rfl rfl
   ·refine bf.items (zn false) 60 6 _ 1 (by simp) hh rfl (by decide) ?_
    exact bf.pre hx (bq.same rfl (by rw [aG (FV _)])) (by decide)
   ·generalize FT key=l
    kernel_rfl
  exact ai.frozen k (by simp [UX])
noncomputable def pdF:List SV→Option (SV×List Blk×Bool)
 | [.ro false .u8 key,.int .u8 w]=>some (.ro true .u8 (jg key w),[],decide (key.length<274877900000))
 |_=>none
noncomputable def pdE:Entry Tryz.prog:=.val 145 _ Tryz.func145 (by decide) rfl true 0 pdF fun vs v new e=>by
 unfold pdF at e
 split at e
 ·simp only [Option.some.injEq,Prod.mk.injEq,decide_eq_true_eq] at e
  obtain ⟨rfl,rfl,h⟩:=e
  exact sy h
 ·cases e
noncomputable def taC (a:Bool):bu:=mk (P:=Tryz.prog) [S2.Bt,S2.vr,S2.acQ,S2.nj,pdE] [] fun i=>if i=17 then some a else none
theorem zo (a:Bool):ag Tryz.prog (taC a):=ah _ au.nil _ _
noncomputable def Xi:Code:=aE Tryz.f111
noncomputable def Dy (key:List Int) (xss:List (List Int)) (d:Blk) (i:Int):St:=⟨slotsOf 31 [(0,.ro false .u8 key),(4,.ptr 0 0 0),(5,.ptr 1 0 0),(14,.iN false xss),(15,.int .i64 xss.length),(16,.int .i64 i)],[.b [.ints .u8 32 S2.iB],d],true⟩
theorem UY (key:List Int) (xss:List (List Int)) (d d':Blk) {i j:Int} (h:i=j):(Dy key xss d i).t=(Dy key xss d' j).t:=by subst h;rfl
theorem UZ (key:List Int) (xss:List (List Int)) {d d':Blk} (i j:Int) (h:d=d'):(Dy key xss d i).h=(Dy key xss d' j).h:=by subst h;rfl
section
variable (key st r:List Int) (xss:List (List Int)) (n i:Int)
theorem QX:(aW Tryz.prog (taC true) 60 0 4 (atoms Xi) ⟨aO Tryz.f111.ntmps [.ro false .u8 key,.iN false xss],[],true⟩).bind (St.cut [0,4,5,14,15,16] 2)=
  some {Dy key xss (S2.dg (S2.iQ ([]++jg key 54) S2.gR S2.qF (([]++jg key 54).length/64)) (([]++jg key 54).drop (64*(([]++jg key 54).length/64))) (IntKind.i64.wrap (0+(jg key 54).length))) 0 with
   ob:=aa (aa true (aa true (decide (key.length<274877900000)))) (aa true (true&&decide (([]:List Int).length+(jg key 54).length<274877900000)))}:=by kernel_rfl
theorem Xj:(exec Tryz.prog (taC true) 60 0 (inner (inner (aA 4 Xi))) (Dy key xss (S2.dg st r n) i)).bind (fun r=>(r.2.cut [0,4,5,14,15,16] 2).map fun q=>(r.1,q))=
  some (.normal,{Dy key xss (S2.dg (S2.iQ (r++xss.getD i.toNat []) S2.gR st ((r++xss.getD i.toNat []).length/64)) ((r++xss.getD i.toNat []).drop (64*((r++xss.getD i.toNat []).length/64))) (IntKind.i64.wrap (n+(xss.getD i.toNat []).length))) (IntKind.i64.wrap (i+1)) with
   ob:=aa (aa (aa (aa true (decide (i<xss.length))) (cL i xss.length)) (decide (i.toNat<xss.length))) (aa true (decide (st.length=8)&&decide (r.length+(xss.getD i.toNat []).length<274877900000)))}):=by kernel_rfl
theorem Xk:(exec Tryz.prog (taC false) 60 0 (inner (inner (aA 4 Xi))) (Dy key xss (S2.dg st r n) i)).bind (fun r=>(r.2.cut [0,4,5,14,15,16] 2).map fun q=>(r.1,q))=
  some (.exit 0,{Dy key xss (S2.dg st r n) i with ob:=aa true (!decide (i<xss.length))}):=by kernel_rfl
theorem QY:((o9 Tryz.prog (taC true) 60 ([]:List Blk).length ((atoms (aE Tryz.f111)).drop 5) (Dy key xss (S2.dg st r n) xss.length)).bind fun r=>match r.1 with
   | .ret| .normal=>(kJ Tryz.prog r.2.t r.2.h Tryz.f111.results.toList).map fun q=>(oneOf q.1,r.2.h.take 0,aa r.2.ob q.2)
   |_=>none)=some (.agg [.ints .u8 32 (S2.aq [jg key 92,S2.nB st r n].flatten)],[],
  aa (aa (aa true (aa true (decide (st.length=8)&&decide (r.length<274877900000)))) (aa true (decide (key.length<274877900000)))) (aa true (decide ([jg key 92,S2.nB st r n].flatten.length<274877900000)&&true))):=by kernel_rfl
end
noncomputable def bG (key xs:List Int):List Int:=gY (S2.aq (jg key 92++S2.aq (jg key 54++xs)))
theorem eM (key xs:List Int):(bG key xs).length=32:=by rw [bG,aD];exact S2.bn _
theorem zp (key xs:List Int):∀x∈bG key xs,0≤x∧x<256:=by rw [bG,aD];exact S2.kI _
theorem Xl {key:List Int} {xss:List (List Int)} (hk:key.length<274877900000) (h1:xss.flatten.length<274877890000) (h2:xss.length≤274877906944):ai Tryz.prog 111 [.ro false .u8 key,.iN false xss] [] (.agg [.ints .u8 32 (bG key xss.flatten)]) []:=by
 have hp:=FU key 54
 have hp2:=FU key 92
 have bY:Tr Tryz.prog none 0 (aA 4 Xi) (Dy key xss (S2.Dz (jg key 54)) 0) .normal (Dy key xss (S2.Dz (jg key 54++xss.flatten)) xss.length):=by
  have j9:=Tr.loop (P:=Tryz.prog) (ro:=none) (k:=0) 0 (c:=aA 4 Xi) (by kernel_rfl) (fun j:Nat=>Dy key xss (S2.Dz (jg key 54++(xss.take j).flatten)) j) xss.length (s':=Dy key xss (S2.Dz (jg key 54++xss.flatten)) xss.length) (fun j hj=>?_) ?_
  ·exact Tr.pre j9 (bq.same (UY _ _ _ _ rfl) (UZ _ _ _ _ (by rw [List.take_zero,List.flatten_nil,List.append_nil])))
  ·generalize hx:jg key 54++(xss.take j).flatten=xs
   have hl:=S2.Bu xss (j+1)
   rw [S2.oB hj,List.length_append] at hl
   have uq:xs.length=64+(xss.take j).flatten.length:=by rw [←hx,List.length_append,hp]
   have k:=Xj key (S2.iQ xs S2.gR S2.qF (xs.length/64)) (xs.drop (64*(xs.length/64))) xss xs.length j
   obtain ⟨e1,e2⟩:=S2.FW xs (xss.getD j [])
   rw [Int.toNat_natCast,e1,e2,wrap_i64 (_+_) (by omega) (by omega),wrap_i64 _ (by omega) (by omega),decide_eq_true (S2.oC S2.qG _),decide_eq_true (show (xs.drop (64*(xs.length/64))).length+(xss.getD j []).length<274877900000 by rw [List.length_drop];omega),
    decide_eq_true (show (j:Int)<xss.length by omega),aK (by omega) (by omega),decide_eq_true hj] at k
   refine Tr.post (Tr.cut (zo true) 60 _ 2 (by omega) k rfl) (bq.same (UY _ _ _ _ (by omega)) (UZ _ _ _ _ ?_))
   rw [S2.oB hj, ←List.append_assoc,hx]
   unfold S2.Dz
   rw [List.length_append,Int.natCast_add]
  ·have k:=Xk key (S2.iQ (jg key 54++xss.flatten) S2.gR S2.qF ((jg key 54++xss.flatten).length/64)) ((jg key 54++xss.flatten).drop (64*((jg key 54++xss.flatten).length/64))) xss (jg key 54++xss.flatten).length xss.length
   rw [List.take_length]
   exact Tr.post (Tr.cut (zo false) 60 _ 2 (by omega) k (by simp [aa])) (bq.same rfl rfl)
 have hh:=QX key xss
 rw [List.nil_append,hp,decide_eq_true hk] at hh
 have e0:S2.Dz (jg key 54)=S2.dg (S2.iQ (jg key 54) S2.gR S2.qF (64/64)) ((jg key 54).drop (64*(64/64))) (IntKind.i64.wrap (0+(64:Nat))):=by
  unfold S2.Dz
  rw [hp];rfl
 have hs:=S2.FX (jg key 54++xss.flatten)
 have hr:((jg key 54++xss.flatten).drop (64*((jg key 54++xss.flatten).length/64))).length<274877900000:=by rw [List.length_drop,List.length_append,hp];omega
 have k:ai Tryz.prog 111 [.ro false .u8 key,.iN false xss] [] (.agg [.ints .u8 32 (S2.aq [jg key 92,S2.aq (jg key 54++xss.flatten)].flatten)]) []:=by
  rw [←hs]
  generalize hst:S2.iQ (jg key 54++xss.flatten) S2.gR S2.qF ((jg key 54++xss.flatten).length/64)=st
  generalize hrr:(jg key 54++xss.flatten).drop (64*((jg key 54++xss.flatten).length/64))=r at hr
  have h8:st.length=8:=by rw [←hst];exact S2.oC S2.qG _
  have hin:∀s' x,bf Tryz.prog none 0 ((atoms Xi).drop 5) (Dy key xss (S2.dg st r (jg key 54++xss.flatten).length) xss.length) x s'→bf Tryz.prog none 0 (atoms Xi) ⟨aO Tryz.f111.ntmps [.ro false .u8 key,.iN false xss],[],true⟩ x s':=fun s' x h=>by
   refine bf.items (zo true) 60 4 _ 2 (by simp) hh rfl (by decide) ?_
   rw [←e0]
   refine bf.item 4 (by decide) (Tr.pre bY (bq.same rfl rfl)) ?_
   unfold S2.Dz
   rw [hst,hrr]
   exact h
  generalize ((jg key 54++xss.flatten).length:Int)=n at*
  have hq:=S2.Is st r n
  have hl:[jg key 92,S2.nB st r n].flatten.length<274877900000:=by
   simp only [List.flatten_cons,List.flatten_nil,List.length_append,hp2,hq,List.length_nil];omega
  refine ai.cu (zo true) 60 5 0 Tryz.func111 (by simp) rfl (fun s' x h=>hin s' x h) (s:=Dy key xss (S2.dg st r n) xss.length)
   (p:=aa (aa (aa true (aa true (decide (st.length=8)&&decide (r.length<274877900000)))) (aa true (decide (key.length<274877900000)))) (aa true (decide ([jg key 92,S2.nB st r n].flatten.length<274877900000)&&true))) (QY key st r xss n) ?_ rfl rfl
  rw [h8,decide_eq_true hr,decide_eq_true hk,decide_eq_true hl]
  rfl
 rw [bG,aD]
 have e:[jg key 92,S2.aq (jg key 54++xss.flatten)].flatten=jg key 92++S2.aq (jg key 54++xss.flatten):=by simp
 rw [e] at k
 exact k
noncomputable def acR:List SV→Option (SV×List Blk×Bool)
 | [.ro false .u8 key,.iN false xss]=>some (.agg [.ints .u8 32 (bG key xss.flatten)],[],decide (key.length<274877900000)&&decide (xss.flatten.length<274877890000)&&decide (xss.length≤274877906944))
 |_=>none
noncomputable def acS:Entry Tryz.prog:=.val 111 _ Tryz.func111 (by decide) rfl true 0 acR fun vs v new e=>by
 unfold acR at e
 split at e
 ·simp only [Option.some.injEq,Prod.mk.injEq,Bool.and_eq_true,decide_eq_true_eq] at e
  obtain ⟨rfl,rfl,⟨h1,h2⟩,h3⟩:=e
  exact Xl h1 h2 h3
 ·cases e
noncomputable def exC:bu:=mk (P:=Tryz.prog) [acS] []
theorem Kk:ag Tryz.prog exC:=ah _ au.nil _ _
noncomputable def Bv:List SV→Option (SV×List Blk×Bool)
 | [.ro false .u8 Bw,.ro false .u8 m]=>some (.agg [.ints .u8 32 (bG Bw m)],[],decide (Bw.length<274877900000)&&decide (m.length<274877890000))
 |_=>none
theorem tF (Bw m:List Int):(br Tryz.prog exC 60 Tryz.f70 [.ro false .u8 Bw,.ro false .u8 m] []).map (fun x=>(x.1,x.2.2))=some (.agg [.ints .u8 32 (bG Bw [m].flatten)],aa true (aa true (decide (Bw.length<274877900000)&&decide ([m].flatten.length<274877890000)&&true))):=by kernel_rfl
noncomputable def Bs:Entry Tryz.prog:=.val 70 _ Tryz.func70 (by decide) rfl true 0 Bv fun vs v new e=>by
 unfold Bv at e
 split at e
 ·rename_i Bw m
  simp only [Option.some.injEq,Prod.mk.injEq,Bool.and_eq_true,decide_eq_true_eq] at e
  obtain ⟨rfl,rfl,h1,h2⟩:=e
  have hm:[m].flatten=m:=by simp
  have k:=aF Kk 60 Tryz.func70 (tF Bw m) (by rw [hm,decide_eq_true h1,decide_eq_true h2];rfl) rfl
  rw [hm] at k
  exact k
 ·cases e
end Go.Proofs.YtibfpjeeanppjaaGreat.Kd
end
section
namespace Go.Sy
open Go
def Xm (b m:Nat) (s:St):Option (St×Bool):=match St.fz b s with
 |some (s',p)=>(s'.gl m).map fun s2=>(s2,p)
 |none=>none
theorem bq.Xm {k b m:Nat} {s s2:St} {p:Bool} (hb:k≤b) (hm:k≤m) (e:Go.Sy.Xm b m s=some (s2,p)) (hp:p=true):bq k s s2:=by
 subst hp
 unfold Go.Sy.Xm at e
 split at e
 case h_2=>cases e
 rename_i s' p' he
 obtain ⟨s3,h3,e⟩:=Option.map_eq_some_iff.1 e
 cases e
 exact (bq.freeze hb he).trans (bq.gl hm h3)
theorem bq.aiu {k:Nat} {t:List (Option SV)} {h:List Blk} {o o':Bool} (i:Nat) {v v':SV} (hi:t[i]? =some (some v)) (hv:VE v v'):bq k ⟨t,h,o⟩ ⟨t.set i (some v'),h,o'⟩:=by
 refine bq.mono (by simp) (fun j u hj=>?_) rfl (fun i qs hi=>⟨qs,hi,PE.refl _⟩) (fun i g hi=>hi)
 rw [List.getElem?_set] at hj
 split at hj
 ·rename_i q
  subst q
  split at hj
  ·cases hj;exact ⟨v,hi,hv⟩
  ·cases hj
 ·exact ⟨u,hj,VE.refl _⟩
theorem VE.sw (f:Bool) (k:IntKind):VE (.nl (.slice none 0 0)) (.ro f k []):=fun e y h=>by
 have h':y= .slice none 0 0:=h
 subst h'
 exact .inl ⟨rfl,none,0,rfl,fun _=>rfl⟩
end Go.Sy
namespace Go.Proofs.YtibfpjeeanppjaaGreat.Kd
open Go Go.Sy Sh
noncomputable def c0:bu:=mk (P:=Tryz.prog) [] []
theorem yf:ag Tryz.prog c0:=ah _ au.nil _ _
def tgF:List SV→Option (SV×List Blk×Bool)
 | [.ro false .u8 sec,.ro false .u8 info]=>some (.fn (.func 166) [] [.ptr 0 0 0,.ptr 1 0 0],[.b [.ro false .u8 sec],.b [.ro false .u8 info]],true)
 |_=>none
noncomputable def tgE:Entry Tryz.prog:=.val 144 _ Tryz.func144 (by decide) rfl true 2 tgF fun vs v new e=>by
 unfold tgF at e
 split at e
 ·cases e
  exact aQ yf 30 Tryz.func144 2 (by simp) (p:=true) (by kernel_rfl) rfl rfl rfl
 ·cases e
noncomputable def xpB:Code:=aE Tryz.f109
noncomputable def xpI:Code:=inner (aA 1 xpB)
noncomputable def U0:Code:=aA 5 xpI
noncomputable def tgB:Code:=aE Tryz.f166
noncomputable def Xn:List (Option SV):=slotsOf 36 [(5,.ptr 0 0 0),(8,.ptr 2 0 0),(21,.fn (.func 166) [] [.ptr 3 0 0,.ptr 4 0 0])]
noncomputable def xpL (l:Nat):Lp:=FB U0 Xn l
noncomputable def U1 (l:Nat):Lp:={FB U0 Xn l with st:=.done,fB:=some (.exit 0)}
noncomputable def acW (sec info l:List Int) (m N:Nat):List Blk:=[.b [.int .i64 N],.b [.ints .u8 N l],.b [.sl 1 0 0 1 m N false false],.b [.ro false .u8 sec],.b [.ro false .u8 info]]
noncomputable def JM (sec info l:List Int) (m N:Nat) (g:Option Lp):List Blk:=[.b [.int .i64 N],.b [.ints .u8 N l],.b [.sl 1 0 0 1 m N false false],.b [.ro false .u8 sec],.b [.ro false .u8 info],.g g]
noncomputable def tgS (sec info l:List Int) (m N:Nat) (last:List Int) (i:Int) (k:Nat):St:=⟨slotsOf 25 [(0,.fn (.yield k) [] []),(1,.ptr 3 0 0),(2,.ptr 4 0 0),(4,.ro true .u8 last),(5,.int .u8 i)],JM sec info l m N (some (xpL k)),true⟩
noncomputable def tgM (sec info l:List Int) (m N:Nat) (last t:List Int) (i j:Int) (k:Nat):St:=⟨slotsOf 25 [(0,.fn (.yield k) [] []),(1,.ptr 3 0 0),(2,.ptr 4 0 0),(4,.sl 8 0 0 1 32 32 true true),(5,.int .u8 j)],
 [.b [.int .i64 N],.b [.ints .u8 N l],.b [.sl 1 0 0 1 m N false false],.b [.ro false .u8 sec],.b [.ro false .u8 info],.g (some (xpL k)),.b [.ints .u8 1 [i]],.b [.ro true .u8 last,.ro false .u8 info,.sl 6 0 0 1 1 1 true true],.b [.ints .u8 32 t]],true⟩
noncomputable def tgC (a:Bool):bu:=mk (P:=Tryz.prog) [acS] [] fun i=>if i=34 then some a else if i=22 then some false else none
theorem D2 (a:Bool):ag Tryz.prog (tgC a):=ah _ au.nil _ _
def It (m N:Nat):Int:=if IntKind.i64.wrap ((N:Int)-(m:Int))<32 then IntKind.i64.wrap ((N:Int)-(m:Int)) else 32
def vI (m N:Nat):Nat:=(It m N).toNat
noncomputable def tT (sec last info:List Int) (i:Int):List Int:=bG sec [last,info,[i]].flatten
noncomputable def xpW (l t:List Int) (m N:Nat):List Int:=ng l (0+m) ((t.drop 0).take (vI m N)) (vI m N)
noncomputable def xpA (sec last info:List Int) (i:Int):Bool:=aa true (aa true (decide (sec.length<274877900000)&&decide ([last,info,[i]].flatten.length<274877890000)&&true))
noncomputable def xpY (l t:List Int) (m N k:Nat):Bool:=aa (aa (aa (decide (k=k)) (decide (k=k))) (aa true (decide (0≤It m N)&&decide (It m N≤32)))) (aa (aa (decide (0+vI m N≤32)&&decide (0+vI m N≤t.length)) (decide (m+vI m N≤N))) (decide (l.length=N)&&decide (0+m+vI m N≤N)&&decide (vI m N≤((t.drop 0).take (vI m N)).length)))
section
variable (sec info l last t:List Int) (m N k:Nat) (i:Int)
theorem Xo:(exec Tryz.prog (tgC false) 60 6 (inner (inner (aA 2 tgB))) (tgS sec info l m N last i k)).bind (fun r=>(r.2.cut [0,1,2,4,5] 9).map fun q=>(r.1,q))=
  some (.normal,{tgM sec info (xpW l (tT sec last info i) m N) (m+vI m N) N last (tT sec last info i) i (IntKind.u8.wrap (i+1)) k with
   ob:=aa (aa (xpA sec last info i) (aa (aa (xpY l (tT sec last info i) m N k) (!((m+vI m N:Nat):Int)==(N:Int))) (decide (k=k)))) (!i==255)}):=by kernel_rfl
theorem acY (j:Int):Xm 8 6 (tgM sec info l m N last t i j k)=some (tgS sec info l m N t j k,aa (decide (t.length=32)) true):=by kernel_rfl
theorem QZ:(exec Tryz.prog (tgC true) 60 6 (inner (inner (aA 2 tgB))) (tgS sec info l m N last i k)).bind (fun r=>(r.2.cut [] 6).map fun q=>(r.1,q))=
  some (.ret,⟨slotsOf 25 [],JM sec info (xpW l (tT sec last info i) m N) (m+vI m N) N (some (U1 k)),
   aa (xpA sec last info i) (aa (aa (xpY l (tT sec last info i) m N k) (((m+vI m N:Nat):Int)==(N:Int))) (decide (k=k)))⟩):=by kernel_rfl
theorem Q0:(aW Tryz.prog (tgC false) 60 6 2 (atoms tgB) ⟨aO Tryz.f166.ntmps [.fn (.yield k) [] [],.ptr 3 0 0,.ptr 4 0 0],JM sec info l m N (some (xpL k)),true⟩).bind (St.cut [0,1,2,4,5] 6)=
  some ⟨slotsOf 25 [(0,.fn (.yield k) [] []),(1,.ptr 3 0 0),(2,.ptr 4 0 0),(4,.nl (.slice none 0 0)),(5,.int .u8 1)],JM sec info l m N (some (xpL k)),true⟩:=by kernel_rfl
end
noncomputable def xR (sec info:List Int):Nat→List Int
 |0=>[]
 |j+1=>tT sec (xR sec info j) info ((j+1:Nat):Int)
noncomputable def U2 (sec info:List Int):Nat→List Int
 |0=>[]
 |j+1=>U2 sec info j++xR sec info (j+1)
noncomputable def A9 (sec info:List Int) (N j:Nat):List Int:=U2 sec info j++List.replicate (N-32*j) 0
noncomputable def bp (sec info:List Int) (N:Nat):List Int:=U2 sec info ((N-1)/32)++(xR sec info ((N-1)/32+1)).take (N-32*((N-1)/32))
theorem pT (sec last info:List Int) (i:Int):(tT sec last info i).length=32:=eM _ _
theorem zq (sec info:List Int) (j:Nat):(xR sec info (j+1)).length=32:=pT _ _ _ _
theorem Xp (sec info:List Int):∀j,(xR sec info j).length≤32
 |0=>by simp [xR]
 |j+1=>by rw [zq];exact Nat.le_refl _
theorem uQ (sec info:List Int):∀j,(U2 sec info j).length=32*j
 |0=>rfl
 |j+1=>by rw [U2,List.length_append,uQ sec info j,zq];omega
theorem FY (sec info:List Int) {N j:Nat} (h:32*j≤N):(A9 sec info N j).length=N:=by unfold A9;rw [List.length_append,uQ,List.length_replicate];omega
theorem eO (sec info:List Int) (N:Nat):(bp sec info N).length=N:=by
 unfold bp
 rw [List.length_append,uQ,List.length_take,zq]
 omega
theorem D3 {m N:Nat} (h:m≤N) (hN:N≤8160):vI m N=min 32 (N-m)∧0≤It m N∧It m N≤32:=by
 unfold vI It
 rw [wrap_i64 _ (by omega) (by omega)]
 split<;>omega
theorem KL {sec info:List Int} {N j n:Nat} (_:32*j+n≤N) (t:List Int) (ht:n≤t.length):ng (A9 sec info N j) (0+32*j) ((t.drop 0).take n) n=U2 sec info j++t.take n++List.replicate (N-32*j-n) 0:=by
 have hc:=uQ sec info j
 unfold ng A9
 rw [Nat.zero_add,List.drop_zero,List.take_left' hc,List.take_of_length_le (by rw [List.length_take];omega), ←List.drop_drop,List.drop_left' hc,List.drop_replicate]
theorem Bz {sec info:List Int} (hs:sec.length<274877900000) (hi:info.length<270000000000) (j:Nat) (i:Int):xpA sec (xR sec info j) info i=true:=by
 have h:=Xp sec info j
 unfold xpA
 rw [decide_eq_true hs,decide_eq_true (show [xR sec info j,info,[i]].flatten.length<274877890000 by simp only [List.flatten_cons,List.flatten_nil,List.length_append,List.length_cons,List.length_nil];omega)]
 rfl
theorem BA {l t:List Int} {m N:Nat} (hm:m≤N) (hN:N≤8160) (hl:l.length=N) (ht:t.length=32) (k:Nat):xpY l t m N k=true:=by
 obtain ⟨e,h0,h1⟩:=D3 hm hN
 have hk:vI m N≤32∧m+vI m N≤N:=by rw [e];omega
 have htl:((t.drop 0).take (vI m N)).length=vI m N:=by rw [List.drop_zero,List.length_take,ht];omega
 unfold xpY
 rw [htl,ht,hl,decide_eq_true h0,decide_eq_true h1,decide_eq_true (show 0+vI m N≤32 by omega),decide_eq_true hk.2,decide_eq_true (show 0+m+vI m N≤N by omega),decide_eq_true (Nat.le_refl (vI m N))]
 simp [aa]
theorem acZ {sec info:List Int} {N:Nat} (hs:sec.length<274877900000) (hi:info.length<270000000000) (hN:N≤8160) (k:Nat):
  ai Tryz.prog 166 [.fn (.yield k) [] [],.ptr 3 0 0,.ptr 4 0 0] (JM sec info (A9 sec info N 0) 0 N (some (xpL k))) (.aT []) (JM sec info (bp sec info N) N N (some (U1 k))):=by
 have hq:32*((N-1)/32)≤N:=by omega
 have bY:Tr Tryz.prog none 6 (aA 2 tgB) (tgS sec info (A9 sec info N 0) 0 N [] 1 k) .ret ⟨slotsOf 25 [],JM sec info (bp sec info N) N N (some (U1 k)),true⟩:=by
  refine Tr.qD 0 (by kernel_rfl) ?_
  have j9:=iR.for (P:=Tryz.prog) (ro:=none) (k:=6) (b:=inner (inner (aA 2 tgB))) (x:=.ret) (s':=⟨slotsOf 25 [],JM sec info (bp sec info N) N N (some (U1 k)),true⟩) (by simp)
   (fun j:Nat=>tgS sec info (A9 sec info N j) (32*j) N (xR sec info j) ((j+1:Nat):Int) k) ((N-1)/32) (fun j hj=>?_) ?_
  ·exact iR.pre j9 (bq.same rfl rfl)
  ·have hj2:32*j+32<N:=by omega
   obtain ⟨e,_,_⟩:=D3 (m:=32*j) (N:=N) (by omega) hN
   have e32:vI (32*j) N=32:=by rw [e];omega
   have kk:=Xo sec info (A9 sec info N j) (xR sec info j) (32*j) N k ((j+1:Nat):Int)
   have hw:xpW (A9 sec info N j) (tT sec (xR sec info j) info ((j+1:Nat):Int)) (32*j) N=A9 sec info N (j+1):=by
    unfold xpW
    rw [e32,KL (by omega) _ (by rw [pT];exact Nat.le_refl _),List.take_of_length_le (by rw [pT];exact Nat.le_refl _)]
    unfold A9
    rw [U2,xR,show N-32*j-32=N-32*(j+1) by omega]
   have h1:(!(((32*j+32:Nat):Int)==(N:Int)))=true:=by simp;omega
   have h2:(!(((j+1:Nat):Int)==255))=true:=by simp;omega
   have h3:IntKind.u8.wrap (((j+1:Nat):Int)+1)=((j+1+1:Nat):Int):=by
    have:∀z:Int,IntKind.u8.wrap z=z%256:=fun z=>by simp [IntKind.wrap,IntKind.signed,IntKind.bits]
    rw [this];omega
   rw [hw,e32,Bz hs hi,BA (by omega) hN (FY _ _ (by omega)) (pT _ _ _ _),h1,h2,h3,decide_eq_true rfl] at kk
   refine Tr.post (Tr.post (Tr.cut (D2 false) 60 _ 9 (by omega) kk rfl) (bq.same rfl rfl)) ?_
   exact bq.Xm (by omega) (by omega) (acY sec info (A9 sec info N (j+1)) (xR sec info j) (tT sec (xR sec info j) info ((j+1:Nat):Int)) (32*j+32) N k ((j+1:Nat):Int) ((j+1+1:Nat):Int)) (by rw [pT];rfl)
  ·have kk:=QZ sec info (A9 sec info N ((N-1)/32)) (xR sec info ((N-1)/32)) (32*((N-1)/32)) N k (((N-1)/32+1:Nat):Int)
   obtain ⟨e,_,_⟩:=D3 hq hN
   have eN:vI (32*((N-1)/32)) N=N-32*((N-1)/32):=by rw [e];omega
   have hw:xpW (A9 sec info N ((N-1)/32)) (tT sec (xR sec info ((N-1)/32)) info (((N-1)/32+1:Nat):Int)) (32*((N-1)/32)) N=bp sec info N:=by
    unfold xpW
    rw [eN,KL (by omega) _ (by rw [pT];omega),show N-32*((N-1)/32)-(N-32*((N-1)/32))=0 by omega,List.replicate_zero,List.append_nil]
    rfl
   have h1:(((N:Nat):Int)==(N:Int))=true:=beq_self_eq_true _
   rw [hw,Bz hs hi,BA hq hN (FY _ _ hq) (pT _ _ _ _),eN,show 32*((N-1)/32)+(N-32*((N-1)/32))=N by omega,h1,decide_eq_true rfl] at kk
   exact Tr.cut (D2 true) 60 _ 6 (by omega) kk rfl
 refine ai.mk (vs:=[]) Tryz.func166 rfl (x:=.ret) (s:=⟨slotsOf 25 [],JM sec info (bp sec info N) N N (some (U1 k)),true⟩) ?_ (.inl rfl) (by kernel_rfl)
 refine bf.items (D2 false) 60 2 _ 6 (by show 6≤6;omega) (Q0 sec info _ 0 N k) rfl (by decide) ?_
 refine bf.pre ?_ (bq.aiu (o':=true) 4 (v:=.nl (.slice none 0 0)) (v':=.ro true .u8 []) rfl (VE.sw _ _)) (by decide)
 exact bf.leave 2 (by decide) (by simp) (Tr.pre bY (bq.same rfl rfl))
end Go.Proofs.YtibfpjeeanppjaaGreat.Kd
end
