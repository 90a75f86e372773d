/- This file holds the texts KdA, KdB, a section each. No conditions beyond those in the theorems. -/
import Derived.Test.YtibfpjeeanppjaaGreatUS2C
set_option linter.all false
set_option maxRecDepth 100000
section
namespace Go.Proofs.YtibfpjeeanppjaaGreat.Kd
open Go Go.Sy Sh
noncomputable def pdC (a:Bool):bK:=mk (P:=Tryz.prog) [S2.BI] [] fun i=>if i=10 then some a else none
theorem xB (a:Bool):ag Tryz.prog (pdC a):=ai _ aF.nil _ _
noncomputable def pdM:Code:=aH Tryz.f145
noncomputable def YV (key:List Int):List Int:=if (key.length:Int)>64 then S2.bn key else key
noncomputable def BE (k:List Int):List Int:=nN (List.replicate 64 0) 0 k (Nat.min k.length 64)
def NY (l:List Int) (w:Int):List Int:=(List.range 64).map fun i=>cj .u8 (l.getD i 0) w
noncomputable def ic (key:List Int) (w:Int):List Int:=gz (NY (BE (YV key)) w)
theorem DF (key:List Int) (w:Int):(ic key w).length=64:=by rw [ic,aq];simp [NY]
noncomputable def pd1 (key l:List Int) (w:Int):St:=⟨slotsOf 33 [(1,.int .u8 w),(6,.sl 2 0 0 1 64 64 true true),(20,.int .i64 64),(21,.int .i64 0)],[.b [.ro false .u8 key],.b [.ints .u8 32 (S2.bn key)],.b [.ints .u8 64 l]],true⟩
noncomputable def pd0 (l:List Int) (w:Int):St:=⟨slotsOf 33 [(1,.int .u8 w),(6,.sl 0 0 0 1 64 64 true true),(20,.int .i64 64),(21,.int .i64 0)],[.b [.ints .u8 64 l]],true⟩
section
variable (key l:List Int) (w:Int)
theorem ZU:(az Tryz.prog (pdC true) 60 0 6 (atoms pdM) ⟨aT Tryz.f145.ntmps [.ro false .u8 key,.int .u8 w],[],true⟩).bind (St.cut [1,6,20,21] 3)=
  some ⟨slotsOf 33 [(1,.int .u8 w),(6,.sl 2 0 0 1 64 64 true true),(20,.int .i64 64),(21,.int .i64 0)],[.b [.ro false .u8 key],.b [.ints .u8 32 (S2.bn [key].flatten)],.b [.ints .u8 64 (nN (List.replicate 64 0) 0 (S2.bn [key].flatten) (Nat.min 32 64))]],
   aa (aa (aa true (decide ((key.length:Int)>64))) (aa true (decide ([key].flatten.length<274877900000)&&true))) (aa (decide ((S2.bn [key].flatten).length=32)&&true) (true&&decide (Nat.min 32 64≤(S2.bn [key].flatten).length)))⟩:=by kernel_rfl
theorem ZV:(az Tryz.prog (pdC false) 60 0 6 (atoms pdM) ⟨aT Tryz.f145.ntmps [.ro false .u8 key,.int .u8 w],[],true⟩).bind (St.cut [1,6,20,21] 1)=
  some {pd0 (BE key) w with ob:=aa (aa true (!decide ((key.length:Int)>64))) (aa true (true&&decide (0+Nat.min key.length 64≤64)&&decide (Nat.min key.length 64≤key.length)))}:=by kernel_rfl
end
theorem DG (k:List Int):(BE k).length=64:=ow (by simp) (by have h:Nat.min k.length 64≤64:=Nat.min_le_right _ _;generalize Nat.min k.length 64=m at*;omega) (Nat.min_le_left _ _)
theorem qH {key:List Int} {w:Int} (h:key.length<274877900000):aj Tryz.prog 145 [.ro false .u8 key,.int .u8 w] [] (.ro true .u8 (ic key w)) []:=by
 rw [ic,aq]
 unfold YV
 split
 ·rename_i hk
  have hs:=S2.eD key
  have e:nN (List.replicate 64 0) 0 (S2.bn key) (Nat.min 32 64)=BE (S2.bn key):=by unfold BE;rw [hs]
  have hh:=ZU key w
  rw [show [key].flatten=key by simp,e,hs,decide_eq_true hk,decide_eq_true h] at hh
  have k:aj Tryz.prog 145 [.ro false .u8 key,.int .u8 w] [] (.sl 2 0 0 1 64 64 true true) [.b [.ro false .u8 key],.b [.ints .u8 32 (S2.bn key)],.b [.ints .u8 64 (NY (BE (S2.bn key)) w)]]:=by
   refine aj.cg (xB true) 200 6 3 Tryz.func145 (by simp) rfl (fun s' x hx=>?_) (s:=pd1 key (aO 64 (BE (S2.bn key))) w) (p:=true) ?_ rfl rfl rfl
   ·refine aG.items (xB true) 60 6 _ 3 (by simp) hh rfl (by decide) ?_
    exact aG.pre hx (aU.same rfl (by rw [aJ (DG _)];rfl)) (by decide)
   ·generalize BE (S2.bn key)=l
    kernel_rfl
  exact aj.fz 2 0 (by simp) (by simp) k (u:=.ro true .u8 (NY (BE (S2.bn key)) w)) (h2:=[]) (p:=true) (by kernel_rfl) rfl
 ·rename_i hk
  have hh:=ZV key w
  have h1:Nat.min key.length 64≤64:=Nat.min_le_right _ _
  have h2:Nat.min key.length 64≤key.length:=Nat.min_le_left _ _
  have h3:0+Nat.min key.length 64≤64:=by generalize Nat.min key.length 64=m at*;omega
  rw [decide_eq_false hk,decide_eq_true h3,decide_eq_true h2] at hh
  have k:aj Tryz.prog 145 [.ro false .u8 key,.int .u8 w] [] (.sl 0 0 0 1 64 64 true true) [.b [.ints .u8 64 (NY (BE key) w)]]:=by
   refine aj.cg (xB false) 200 6 1 Tryz.func145 (by simp) rfl (fun s' x hx=>?_) (s:=pd0 (aO 64 (BE key)) w) (p:=true) ?_ rfl rfl rfl
   ·refine aG.items (xB false) 60 6 _ 1 (by simp) hh rfl (by decide) ?_
    exact aG.pre hx (aU.same rfl (by rw [aJ (DG _)])) (by decide)
   ·generalize BE key=l
    kernel_rfl
  exact aj.frozen k (by simp [NY])
noncomputable def pdF:List SV→Option (SV×List Blk×Bool)
 | [.ro false .u8 key,.int .u8 w]=>some (.ro true .u8 (ic key w),[],decide (key.length<274877900000))
 |_=>none
noncomputable def pdE:Entry Tryz.prog:=.val 145 _ Tryz.func145 (by decide) rfl true 0 pdF fun vs v new e=>by
 unfold pdF at e
 split at e
 ·simp only [Option.some.injEq,Prod.mk.injEq,decide_eq_true_eq] at e
  obtain ⟨rfl,rfl,h⟩:=e
  exact qH h
 ·cases e
noncomputable def ZW (a:Bool):bK:=mk (P:=Tryz.prog) [S2.ZX,S2.tC,S2.ZY,S2.BI,pdE] [] fun i=>if i=17 then some a else none
theorem xC (a:Bool):ag Tryz.prog (ZW a):=ai _ aF.nil _ _
noncomputable def U1:Code:=aH Tryz.f111
noncomputable def Bl (key:List Int) (xss:List (List Int)) (d:Blk) (i:Int):St:=⟨slotsOf 31 [(0,.ro false .u8 key),(4,.ptr 0 0 0),(5,.ptr 1 0 0),(14,.hU false xss),(15,.int .i64 xss.length),(16,.int .i64 i)],[.b [.ints .u8 32 S2.Nq],d],true⟩
theorem Su (key:List Int) (xss:List (List Int)) (d d':Blk) {i j:Int} (h:i=j):(Bl key xss d i).t=(Bl key xss d' j).t:=by subst h;rfl
theorem Sv (key:List Int) (xss:List (List Int)) {d d':Blk} (i j:Int) (h:d=d'):(Bl key xss d i).h=(Bl key xss d' j).h:=by subst h;rfl
section
variable (key st r:List Int) (xss:List (List Int)) (n i:Int)
theorem OP:(az Tryz.prog (ZW true) 60 0 4 (atoms U1) ⟨aT Tryz.f111.ntmps [.ro false .u8 key,.hU false xss],[],true⟩).bind (St.cut [0,4,5,14,15,16] 2)=
  some {Bl key xss (S2.dg (S2.gK ([]++ic key 54) S2.gB S2.pg (([]++ic key 54).length/64)) (([]++ic key 54).drop (64*(([]++ic key 54).length/64))) (IntKind.i64.wrap (0+(ic key 54).length))) 0 with
   ob:=aa (aa true (aa true (decide (key.length<274877900000)))) (aa true (true&&decide (([]:List Int).length+(ic key 54).length<274877900000)))}:=by kernel_rfl
theorem U2:(exec Tryz.prog (ZW true) 60 0 (inner (inner (ak 4 U1))) (Bl key xss (S2.dg st r n) i)).bind (fun r=>(r.2.cut [0,4,5,14,15,16] 2).map fun q=>(r.1,q))=
  some (.normal,{Bl key xss (S2.dg (S2.gK (r++xss.getD i.toNat []) S2.gB st ((r++xss.getD i.toNat []).length/64)) ((r++xss.getD i.toNat []).drop (64*((r++xss.getD i.toNat []).length/64))) (IntKind.i64.wrap (n+(xss.getD i.toNat []).length))) (IntKind.i64.wrap (i+1)) with
   ob:=aa (aa (aa (aa true (decide (i<xss.length))) (cK i xss.length)) (decide (i.toNat<xss.length))) (aa true (decide (st.length=8)&&decide (r.length+(xss.getD i.toNat []).length<274877900000)))}):=by kernel_rfl
theorem U3:(exec Tryz.prog (ZW false) 60 0 (inner (inner (ak 4 U1))) (Bl key xss (S2.dg st r n) i)).bind (fun r=>(r.2.cut [0,4,5,14,15,16] 2).map fun q=>(r.1,q))=
  some (.exit 0,{Bl key xss (S2.dg st r n) i with ob:=aa true (!decide (i<xss.length))}):=by kernel_rfl
theorem OQ:((nY Tryz.prog (ZW true) 60 ([]:List Blk).length ((atoms (aH Tryz.f111)).drop 5) (Bl key xss (S2.dg st r n) xss.length)).bind fun r=>match r.1 with
   | .ret| .normal=>(j0 Tryz.prog r.2.t r.2.h Tryz.f111.results.toList).map fun q=>(oneOf q.1,r.2.h.take 0,aa r.2.ob q.2)
   |_=>none)=some (.agg [.ints .u8 32 (S2.bn [ic key 92,S2.mu st r n].flatten)],[],
  aa (aa (aa true (aa true (decide (st.length=8)&&decide (r.length<274877900000)))) (aa true (decide (key.length<274877900000)))) (aa true (decide ([ic key 92,S2.mu st r n].flatten.length<274877900000)&&true))):=by kernel_rfl
end
noncomputable def ej (key xs:List Int):List Int:=gz (S2.bn (ic key 92++S2.bn (ic key 54++xs)))
theorem mc (key xs:List Int):(ej key xs).length=32:=by rw [ej,aq];exact S2.eD _
theorem Ok (key xs:List Int):∀x∈ej key xs,0≤x∧x<256:=by rw [ej,aq];exact S2.ni _
theorem U4 {key:List Int} {xss:List (List Int)} (hk:key.length<274877900000) (h1:xss.flatten.length<274877890000) (h2:xss.length≤274877906944):aj Tryz.prog 111 [.ro false .u8 key,.hU false xss] [] (.agg [.ints .u8 32 (ej key xss.flatten)]) []:=by
 have hp:=DF key 54
 have hp2:=DF key 92
 have bS:Tr Tryz.prog none 0 (ak 4 U1) (Bl key xss (S2.Bm (ic key 54)) 0) .normal (Bl key xss (S2.Bm (ic key 54++xss.flatten)) xss.length):=by
  have jS:=Tr.loop (P:=Tryz.prog) (ro:=none) (k:=0) 0 (c:=ak 4 U1) (by kernel_rfl) (fun j:Nat=>Bl key xss (S2.Bm (ic key 54++(xss.take j).flatten)) j) xss.length (s':=Bl key xss (S2.Bm (ic key 54++xss.flatten)) xss.length) (fun j hj=>?_) ?_
  ·exact Tr.pre jS (aU.same (Su _ _ _ _ rfl) (Sv _ _ _ _ (by rw [List.take_zero,List.flatten_nil,List.append_nil])))
  ·generalize hx:ic key 54++(xss.take j).flatten=xs
   have hl:=S2.zN xss (j+1)
   rw [S2.nj hj,List.length_append] at hl
   have vH:xs.length=64+(xss.take j).flatten.length:=by rw [←hx,List.length_append,hp]
   have k:=U2 key (S2.gK xs S2.gB S2.pg (xs.length/64)) (xs.drop (64*(xs.length/64))) xss xs.length j
   obtain ⟨e1,e2⟩:=S2.DH xs (xss.getD j [])
   rw [Int.toNat_natCast,e1,e2,wrap_i64 (_+_) (by omega) (by omega),wrap_i64 _ (by omega) (by omega),decide_eq_true (S2.nk S2.pQ _),decide_eq_true (show (xs.drop (64*(xs.length/64))).length+(xss.getD j []).length<274877900000 by rw [List.length_drop];omega),
    decide_eq_true (show (j:Int)<xss.length by omega),aK (by omega) (by omega),decide_eq_true hj] at k
   refine Tr.post (Tr.cut (xC true) 60 _ 2 (by omega) k rfl) (aU.same (Su _ _ _ _ (by omega)) (Sv _ _ _ _ ?_))
   rw [S2.nj hj, ←List.append_assoc,hx]
   unfold S2.Bm
   rw [List.length_append,Int.natCast_add]
  ·have k:=U3 key (S2.gK (ic key 54++xss.flatten) S2.gB S2.pg ((ic key 54++xss.flatten).length/64)) ((ic key 54++xss.flatten).drop (64*((ic key 54++xss.flatten).length/64))) xss (ic key 54++xss.flatten).length xss.length
   rw [List.take_length]
   exact Tr.post (Tr.cut (xC false) 60 _ 2 (by omega) k (by simp [aa])) (aU.same rfl rfl)
 have hh:=OP key xss
 rw [List.nil_append,hp,decide_eq_true hk] at hh
 have e0:S2.Bm (ic key 54)=S2.dg (S2.gK (ic key 54) S2.gB S2.pg (64/64)) ((ic key 54).drop (64*(64/64))) (IntKind.i64.wrap (0+(64:Nat))):=by
  unfold S2.Bm
  rw [hp];rfl
 have hs:=S2.DI (ic key 54++xss.flatten)
 have hr:((ic key 54++xss.flatten).drop (64*((ic key 54++xss.flatten).length/64))).length<274877900000:=by rw [List.length_drop,List.length_append,hp];omega
 have k:aj Tryz.prog 111 [.ro false .u8 key,.hU false xss] [] (.agg [.ints .u8 32 (S2.bn [ic key 92,S2.bn (ic key 54++xss.flatten)].flatten)]) []:=by
  rw [←hs]
  generalize hst:S2.gK (ic key 54++xss.flatten) S2.gB S2.pg ((ic key 54++xss.flatten).length/64)=st
  generalize hrr:(ic key 54++xss.flatten).drop (64*((ic key 54++xss.flatten).length/64))=r at hr
  have h8:st.length=8:=by rw [←hst];exact S2.nk S2.pQ _
  have hin:∀s' x,aG Tryz.prog none 0 ((atoms U1).drop 5) (Bl key xss (S2.dg st r (ic key 54++xss.flatten).length) xss.length) x s'→aG Tryz.prog none 0 (atoms U1) ⟨aT Tryz.f111.ntmps [.ro false .u8 key,.hU false xss],[],true⟩ x s':=fun s' x h=>by
   refine aG.items (xC true) 60 4 _ 2 (by simp) hh rfl (by decide) ?_
   rw [←e0]
   refine aG.item 4 (by decide) (Tr.pre bS (aU.same rfl rfl)) ?_
   unfold S2.Bm
   rw [hst,hrr]
   exact h
  generalize ((ic key 54++xss.flatten).length:Int)=n at*
  have hq:=S2.FV st r n
  have hl:[ic key 92,S2.mu st r n].flatten.length<274877900000:=by
   simp only [List.flatten_cons,List.flatten_nil,List.length_append,hp2,hq,List.length_nil];omega
  refine aj.cg (xC true) 60 5 0 Tryz.func111 (by simp) rfl (fun s' x h=>hin s' x h) (s:=Bl key xss (S2.dg st r n) xss.length)
   (p:=aa (aa (aa true (aa true (decide (st.length=8)&&decide (r.length<274877900000)))) (aa true (decide (key.length<274877900000)))) (aa true (decide ([ic key 92,S2.mu st r n].flatten.length<274877900000)&&true))) (OQ key st r xss n) ?_ rfl rfl
  rw [h8,decide_eq_true hr,decide_eq_true hk,decide_eq_true hl]
  rfl
 rw [ej,aq]
 have e:[ic key 92,S2.bn (ic key 54++xss.flatten)].flatten=ic key 92++S2.bn (ic key 54++xss.flatten):=by simp
 rw [e] at k
 exact k
noncomputable def ZZ:List SV→Option (SV×List Blk×Bool)
 | [.ro false .u8 key,.hU false xss]=>some (.agg [.ints .u8 32 (ej key xss.flatten)],[],decide (key.length<274877900000)&&decide (xss.flatten.length<274877890000)&&decide (xss.length≤274877906944))
 |_=>none
noncomputable def Z0:Entry Tryz.prog:=.val 111 _ Tryz.func111 (by decide) rfl true 0 ZZ fun vs v new e=>by
 unfold ZZ at e
 split at e
 ·simp only [Option.some.injEq,Prod.mk.injEq,Bool.and_eq_true,decide_eq_true_eq] at e
  obtain ⟨rfl,rfl,⟨h1,h2⟩,h3⟩:=e
  exact U4 h1 h2 h3
 ·cases e
noncomputable def exC:bK:=mk (P:=Tryz.prog) [Z0] []
theorem Um:ag Tryz.prog exC:=ai _ aF.nil _ _
theorem zF (U5 m:List Int):(bE Tryz.prog exC 60 Tryz.f70 [.ro false .u8 U5,.ro false .u8 m] []).map (fun x=>(x.1,x.2.2))=some (.agg [.ints .u8 32 (ej U5 [m].flatten)],aa true (aa true (decide (U5.length<274877900000)&&decide ([m].flatten.length<274877890000)&&true))):=by kernel_rfl
end Go.Proofs.YtibfpjeeanppjaaGreat.Kd
end
section
namespace Go.Sy
open Go
def tI (b m:Nat) (s:St):Option (St×Bool):=match St.fz b s with
 |some (s',p)=>(s'.fN m).map fun s2=>(s2,p)
 |none=>none
theorem aU.tI {k b m:Nat} {s s2:St} {p:Bool} (hb:k≤b) (hm:k≤m) (e:Go.Sy.tI b m s=some (s2,p)) (hp:p=true):aU k s s2:=by
 subst hp
 unfold Go.Sy.tI at e
 split at e
 case h_2=>cases e
 rename_i s' p' he
 obtain ⟨s3,h3,e⟩:=Option.map_eq_some_iff.1 e
 cases e
 exact (aU.freeze hb he).trans (aU.fN hm h3)
theorem aU.afm {k:Nat} {t:List (Option SV)} {h:List Blk} {o o':Bool} (i:Nat) {v v':SV} (hi:t[i]? =some (some v)) (hv:VE v v'):aU k ⟨t,h,o⟩ ⟨t.set i (some v'),h,o'⟩:=by
 refine aU.mono (by simp) (fun j u hj=>?_) rfl (fun i qs hi=>⟨qs,hi,PE.refl _⟩) (fun i g hi=>hi)
 rw [List.getElem?_set] at hj
 split at hj
 ·rename_i q
  subst q
  split at hj
  ·cases hj;exact ⟨v,hi,hv⟩
  ·cases hj
 ·exact ⟨u,hj,VE.refl _⟩
theorem VE.BH (f:Bool) (k:IntKind):VE (.nl (.slice none 0 0)) (.ro f k []):=fun e y h=>by
 have h':y= .slice none 0 0:=h
 subst h'
 exact .inl ⟨rfl,none,0,rfl,fun _=>rfl⟩
end Go.Sy
namespace Go.Proofs.YtibfpjeeanppjaaGreat.Kd
open Go Go.Sy Sh
noncomputable def c0:bK:=mk (P:=Tryz.prog) [] []
theorem Di:ag Tryz.prog c0:=ai _ aF.nil _ _
def tgF:List SV→Option (SV×List Blk×Bool)
 | [.ro false .u8 sec,.ro false .u8 info]=>some (.fn (.func 166) [] [.ptr 0 0 0,.ptr 1 0 0],[.b [.ro false .u8 sec],.b [.ro false .u8 info]],true)
 |_=>none
noncomputable def tgE:Entry Tryz.prog:=.val 144 _ Tryz.func144 (by decide) rfl true 2 tgF fun vs v new e=>by
 unfold tgF at e
 split at e
 ·cases e
  exact dF Di 30 Tryz.func144 2 (by simp) (p:=true) (by kernel_rfl) rfl rfl rfl
 ·cases e
noncomputable def xpB:Code:=aH Tryz.f109
noncomputable def Z1:Code:=inner (ak 1 xpB)
noncomputable def Sw:Code:=ak 5 Z1
noncomputable def Z2:Code:=aH Tryz.f166
noncomputable def U6:List (Option SV):=slotsOf 36 [(5,.ptr 0 0 0),(8,.ptr 2 0 0),(21,.fn (.func 166) [] [.ptr 3 0 0,.ptr 4 0 0])]
noncomputable def Z3 (l:Nat):Lp:=Dl Sw U6 l
noncomputable def Sx (l:Nat):Lp:={Dl Sw U6 l with st:=.done,fc:=some (.exit 0)}
noncomputable def Z4 (sec info l:List Int) (m N:Nat):List Blk:=[.b [.int .i64 N],.b [.ints .u8 N l],.b [.sl 1 0 0 1 m N false false],.b [.ro false .u8 sec],.b [.ro false .u8 info]]
noncomputable def G9 (sec info l:List Int) (m N:Nat) (g:Option Lp):List Blk:=[.b [.int .i64 N],.b [.ints .u8 N l],.b [.sl 1 0 0 1 m N false false],.b [.ro false .u8 sec],.b [.ro false .u8 info],.g g]
noncomputable def Z5 (sec info l:List Int) (m N:Nat) (last:List Int) (i:Int) (k:Nat):St:=⟨slotsOf 25 [(0,.fn (.yield k) [] []),(1,.ptr 3 0 0),(2,.ptr 4 0 0),(4,.ro true .u8 last),(5,.int .u8 i)],G9 sec info l m N (some (Z3 k)),true⟩
noncomputable def tgM (sec info l:List Int) (m N:Nat) (last t:List Int) (i j:Int) (k:Nat):St:=⟨slotsOf 25 [(0,.fn (.yield k) [] []),(1,.ptr 3 0 0),(2,.ptr 4 0 0),(4,.sl 8 0 0 1 32 32 true true),(5,.int .u8 j)],
 [.b [.int .i64 N],.b [.ints .u8 N l],.b [.sl 1 0 0 1 m N false false],.b [.ro false .u8 sec],.b [.ro false .u8 info],.g (some (Z3 k)),.b [.ints .u8 1 [i]],.b [.ro true .u8 last,.ro false .u8 info,.sl 6 0 0 1 1 1 true true],.b [.ints .u8 32 t]],true⟩
noncomputable def tgC (a:Bool):bK:=mk (P:=Tryz.prog) [Z0] [] fun i=>if i=34 then some a else if i=22 then some false else none
theorem BU (a:Bool):ag Tryz.prog (tgC a):=ai _ aF.nil _ _
def FW (m N:Nat):Int:=if IntKind.i64.wrap ((N:Int)-(m:Int))<32 then IntKind.i64.wrap ((N:Int)-(m:Int)) else 32
def tZ (m N:Nat):Nat:=(FW m N).toNat
noncomputable def tT (sec last info:List Int) (i:Int):List Int:=ej sec [last,info,[i]].flatten
noncomputable def Yc (l t:List Int) (m N:Nat):List Int:=nN l (0+m) ((t.drop 0).take (tZ m N)) (tZ m N)
noncomputable def xpA (sec last info:List Int) (i:Int):Bool:=aa true (aa true (decide (sec.length<274877900000)&&decide ([last,info,[i]].flatten.length<274877890000)&&true))
noncomputable def xpY (l t:List Int) (m N k:Nat):Bool:=aa (aa (aa (decide (k=k)) (decide (k=k))) (aa true (decide (0≤FW m N)&&decide (FW m N≤32)))) (aa (aa (decide (0+tZ m N≤32)&&decide (0+tZ m N≤t.length)) (decide (m+tZ m N≤N))) (decide (l.length=N)&&decide (0+m+tZ m N≤N)&&decide (tZ m N≤((t.drop 0).take (tZ m N)).length)))
section
variable (sec info l last t:List Int) (m N k:Nat) (i:Int)
theorem U7:(exec Tryz.prog (tgC false) 60 6 (inner (inner (ak 2 Z2))) (Z5 sec info l m N last i k)).bind (fun r=>(r.2.cut [0,1,2,4,5] 9).map fun q=>(r.1,q))=
  some (.normal,{tgM sec info (Yc l (tT sec last info i) m N) (m+tZ m N) N last (tT sec last info i) i (IntKind.u8.wrap (i+1)) k with
   ob:=aa (aa (xpA sec last info i) (aa (aa (xpY l (tT sec last info i) m N k) (!((m+tZ m N:Nat):Int)==(N:Int))) (decide (k=k)))) (!i==255)}):=by kernel_rfl
theorem Z6 (j:Int):tI 8 6 (tgM sec info l m N last t i j k)=some (Z5 sec info l m N t j k,aa (decide (t.length=32)) true):=by kernel_rfl
theorem OR:(exec Tryz.prog (tgC true) 60 6 (inner (inner (ak 2 Z2))) (Z5 sec info l m N last i k)).bind (fun r=>(r.2.cut [] 6).map fun q=>(r.1,q))=
  some (.ret,⟨slotsOf 25 [],G9 sec info (Yc l (tT sec last info i) m N) (m+tZ m N) N (some (Sx k)),
   aa (xpA sec last info i) (aa (aa (xpY l (tT sec last info i) m N k) (((m+tZ m N:Nat):Int)==(N:Int))) (decide (k=k)))⟩):=by kernel_rfl
theorem OS:(az Tryz.prog (tgC false) 60 6 2 (atoms Z2) ⟨aT Tryz.f166.ntmps [.fn (.yield k) [] [],.ptr 3 0 0,.ptr 4 0 0],G9 sec info l m N (some (Z3 k)),true⟩).bind (St.cut [0,1,2,4,5] 6)=
  some ⟨slotsOf 25 [(0,.fn (.yield k) [] []),(1,.ptr 3 0 0),(2,.ptr 4 0 0),(4,.nl (.slice none 0 0)),(5,.int .u8 1)],G9 sec info l m N (some (Z3 k)),true⟩:=by kernel_rfl
end
noncomputable def zO (sec info:List Int):Nat→List Int
 |0=>[]
 |j+1=>tT sec (zO sec info j) info ((j+1:Nat):Int)
noncomputable def Sz (sec info:List Int):Nat→List Int
 |0=>[]
 |j+1=>Sz sec info j++zO sec info (j+1)
noncomputable def za (sec info:List Int) (N j:Nat):List Int:=Sz sec info j++List.replicate (N-32*j) 0
noncomputable def b7 (sec info:List Int) (N:Nat):List Int:=Sz sec info ((N-1)/32)++(zO sec info ((N-1)/32+1)).take (N-32*((N-1)/32))
theorem oE (sec last info:List Int) (i:Int):(tT sec last info i).length=32:=mc _ _
theorem xD (sec info:List Int) (j:Nat):(zO sec info (j+1)).length=32:=oE _ _ _ _
theorem U8 (sec info:List Int):∀j,(zO sec info j).length≤32
 |0=>by simp [zO]
 |j+1=>by rw [xD];exact Nat.le_refl _
theorem sY (sec info:List Int):∀j,(Sz sec info j).length=32*j
 |0=>rfl
 |j+1=>by rw [Sz,List.length_append,sY sec info j,xD];omega
theorem DJ (sec info:List Int) {N j:Nat} (h:32*j≤N):(za sec info N j).length=N:=by unfold za;rw [List.length_append,sY,List.length_replicate];omega
theorem rT (sec info:List Int) (N:Nat):(b7 sec info N).length=N:=by
 unfold b7
 rw [List.length_append,sY,List.length_take,xD]
 omega
theorem BV {m N:Nat} (h:m≤N) (hN:N≤8160):tZ m N=min 32 (N-m)∧0≤FW m N∧FW m N≤32:=by
 unfold tZ FW
 rw [wrap_i64 _ (by omega) (by omega)]
 split<;>omega
theorem JF {sec info:List Int} {N j n:Nat} (_:32*j+n≤N) (t:List Int) (ht:n≤t.length):nN (za sec info N j) (0+32*j) ((t.drop 0).take n) n=Sz sec info j++t.take n++List.replicate (N-32*j-n) 0:=by
 have hc:=sY sec info j
 unfold nN za
 rw [Nat.zero_add,List.drop_zero,List.take_left' hc,List.take_of_length_le (by rw [List.length_take];omega), ←List.drop_drop,List.drop_left' hc,List.drop_replicate]
theorem zP {sec info:List Int} (hs:sec.length<274877900000) (hi:info.length<270000000000) (j:Nat) (i:Int):xpA sec (zO sec info j) info i=true:=by
 have h:=U8 sec info j
 unfold xpA
 rw [decide_eq_true hs,decide_eq_true (show [zO sec info j,info,[i]].flatten.length<274877890000 by simp only [List.flatten_cons,List.flatten_nil,List.length_append,List.length_cons,List.length_nil];omega)]
 rfl
theorem zQ {l t:List Int} {m N:Nat} (hm:m≤N) (hN:N≤8160) (hl:l.length=N) (ht:t.length=32) (k:Nat):xpY l t m N k=true:=by
 obtain ⟨e,h0,h1⟩:=BV hm hN
 have hk:tZ m N≤32∧m+tZ m N≤N:=by rw [e];omega
 have htl:((t.drop 0).take (tZ m N)).length=tZ m N:=by rw [List.drop_zero,List.length_take,ht];omega
 unfold xpY
 rw [htl,ht,hl,decide_eq_true h0,decide_eq_true h1,decide_eq_true (show 0+tZ m N≤32 by omega),decide_eq_true hk.2,decide_eq_true (show 0+m+tZ m N≤N by omega),decide_eq_true (Nat.le_refl (tZ m N))]
 simp [aa]
theorem Z7 {sec info:List Int} {N:Nat} (hs:sec.length<274877900000) (hi:info.length<270000000000) (hN:N≤8160) (k:Nat):
  aj Tryz.prog 166 [.fn (.yield k) [] [],.ptr 3 0 0,.ptr 4 0 0] (G9 sec info (za sec info N 0) 0 N (some (Z3 k))) (.bk []) (G9 sec info (b7 sec info N) N N (some (Sx k))):=by
 have hq:32*((N-1)/32)≤N:=by omega
 have bS:Tr Tryz.prog none 6 (ak 2 Z2) (Z5 sec info (za sec info N 0) 0 N [] 1 k) .ret ⟨slotsOf 25 [],G9 sec info (b7 sec info N) N N (some (Sx k)),true⟩:=by
  refine Tr.sU 0 (by kernel_rfl) ?_
  have jS:=dy.for (P:=Tryz.prog) (ro:=none) (k:=6) (b:=inner (inner (ak 2 Z2))) (x:=.ret) (s':=⟨slotsOf 25 [],G9 sec info (b7 sec info N) N N (some (Sx k)),true⟩) (by simp)
   (fun j:Nat=>Z5 sec info (za sec info N j) (32*j) N (zO sec info j) ((j+1:Nat):Int) k) ((N-1)/32) (fun j hj=>?_) ?_
  ·exact dy.pre jS (aU.same rfl rfl)
  ·have hj2:32*j+32<N:=by omega
   obtain ⟨e,_,_⟩:=BV (m:=32*j) (N:=N) (by omega) hN
   have e32:tZ (32*j) N=32:=by rw [e];omega
   have kk:=U7 sec info (za sec info N j) (zO sec info j) (32*j) N k ((j+1:Nat):Int)
   have hw:Yc (za sec info N j) (tT sec (zO sec info j) info ((j+1:Nat):Int)) (32*j) N=za sec info N (j+1):=by
    unfold Yc
    rw [e32,JF (by omega) _ (by rw [oE];exact Nat.le_refl _),List.take_of_length_le (by rw [oE];exact Nat.le_refl _)]
    unfold za
    rw [Sz,zO,show N-32*j-32=N-32*(j+1) by omega]
   have h1:(!(((32*j+32:Nat):Int)==(N:Int)))=true:=by simp;omega
   have h2:(!(((j+1:Nat):Int)==255))=true:=by simp;omega
   have h3:IntKind.u8.wrap (((j+1:Nat):Int)+1)=((j+1+1:Nat):Int):=by
    have:∀z:Int,IntKind.u8.wrap z=z%256:=fun z=>by simp [IntKind.wrap,IntKind.signed,IntKind.bits]
    rw [this];omega
   rw [hw,e32,zP hs hi,zQ (by omega) hN (DJ _ _ (by omega)) (oE _ _ _ _),h1,h2,h3,decide_eq_true rfl] at kk
   refine Tr.post (Tr.post (Tr.cut (BU false) 60 _ 9 (by omega) kk rfl) (aU.same rfl rfl)) ?_
   exact aU.tI (by omega) (by omega) (Z6 sec info (za sec info N (j+1)) (zO sec info j) (tT sec (zO sec info j) info ((j+1:Nat):Int)) (32*j+32) N k ((j+1:Nat):Int) ((j+1+1:Nat):Int)) (by rw [oE];rfl)
  ·have kk:=OR sec info (za sec info N ((N-1)/32)) (zO sec info ((N-1)/32)) (32*((N-1)/32)) N k (((N-1)/32+1:Nat):Int)
   obtain ⟨e,_,_⟩:=BV hq hN
   have eN:tZ (32*((N-1)/32)) N=N-32*((N-1)/32):=by rw [e];omega
   have hw:Yc (za sec info N ((N-1)/32)) (tT sec (zO sec info ((N-1)/32)) info (((N-1)/32+1:Nat):Int)) (32*((N-1)/32)) N=b7 sec info N:=by
    unfold Yc
    rw [eN,JF (by omega) _ (by rw [oE];omega),show N-32*((N-1)/32)-(N-32*((N-1)/32))=0 by omega,List.replicate_zero,List.append_nil]
    rfl
   have h1:(((N:Nat):Int)==(N:Int))=true:=beq_self_eq_true _
   rw [hw,zP hs hi,zQ hq hN (DJ _ _ hq) (oE _ _ _ _),eN,show 32*((N-1)/32)+(N-32*((N-1)/32))=N by omega,h1,decide_eq_true rfl] at kk
   exact Tr.cut (BU true) 60 _ 6 (by omega) kk rfl
 refine aj.mk (vs:=[]) Tryz.func166 rfl (x:=.ret) (s:=⟨slotsOf 25 [],G9 sec info (b7 sec info N) N N (some (Sx k)),true⟩) ?_ (.inl rfl) (by kernel_rfl)
 refine aG.items (BU false) 60 2 _ 6 (by show 6≤6;omega) (OS sec info _ 0 N k) rfl (by decide) ?_
 refine aG.pre ?_ (aU.afm (o':=true) 4 (v:=.nl (.slice none 0 0)) (v':=.ro true .u8 []) rfl (VE.BH _ _)) (by decide)
 exact aG.leave 2 (by decide) (by simp) (Tr.pre bS (aU.same rfl rfl))
end Go.Proofs.YtibfpjeeanppjaaGreat.Kd
end
