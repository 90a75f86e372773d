/- This file proves the contract of sha's Short: the short digest of its parts side by side. Conditions: lengths that memory bears. -/
import Derived.Test.YtibfpjeeanppjaaGreatYS2B
set_option linter.all false
set_option maxRecDepth 100000
namespace Go.Proofs.YtibfpjeeanppjaaGreat.S2
open Go Go.Sy Sh
theorem xG (p:List Int) (j:Nat):(p.drop (64*j)).take 64=(p.take (64*(j+1))).drop (64*j):=by
 rw [List.drop_take,show 64*(j+1)-64*j=64 by omega]
theorem xH {p q:List Int} (kk s:List Int):∀j,p.take (64*j)=q.take (64*j)→iQ p kk s j=iQ q kk s j
 |0,_=>rfl
 |j+1,h=>by
  have h0:p.take (64*j)=q.take (64*j):=by
   have:=congrArg (List.take (64*j)) h
   rwa [List.take_take,List.take_take,Nat.min_eq_left (by omega)] at this
  simp only [iQ]
  rw [xH kk s j h0,xG,xG,h]
theorem tB (p kk s:List Int) (N:Nat):∀j,iQ p kk s (N+j)=iQ (p.drop (64*N)) kk (iQ p kk s N) j
 |0=>rfl
 |j+1=>by
  show ij (iQ p kk s (N+j)) ((p.drop (64*(N+j))).take 64) kk=ij (iQ (p.drop (64*N)) kk (iQ p kk s N) j) (((p.drop (64*N)).drop (64*j)).take 64) kk
  rw [tB p kk s N j,List.drop_drop,show 64*N+64*j=64*(N+j) by omega]
noncomputable def Dz (xs:List Int):Blk:=dg (iQ xs gR qF (xs.length/64)) (xs.drop (64*(xs.length/64))) xs.length
theorem FW (xs b:List Int):iQ (xs.drop (64*(xs.length/64))++b) gR (iQ xs gR qF (xs.length/64)) ((xs.drop (64*(xs.length/64))++b).length/64)=iQ (xs++b) gR qF ((xs++b).length/64)∧
  (xs.drop (64*(xs.length/64))++b).drop (64*((xs.drop (64*(xs.length/64))++b).length/64))=(xs++b).drop (64*((xs++b).length/64)):=by
 have hN:64*(xs.length/64)≤xs.length:=by omega
 generalize hn:xs.length/64=N at*
 have e:xs.drop (64*N)++b=(xs++b).drop (64*N):=(List.drop_append_of_le_length hN).symm
 have et:iQ xs gR qF N=iQ (xs++b) gR qF N:=xH _ _ _ (by rw [List.take_append_of_le_length hN])
 have hl:((xs++b).drop (64*N)).length=(xs++b).length-64*N:=List.length_drop ..
 have mS:xs.length≤(xs++b).length:=by simp
 have hq:(xs++b).length/64=N+((xs++b).drop (64*N)).length/64:=by rw [hl];omega
 rw [e,et, ←tB,hq,List.drop_drop,show 64*N+64*(((xs++b).drop (64*N)).length/64)=64*(N+((xs++b).drop (64*N)).length/64) by omega]
 exact ⟨rfl,rfl⟩
def si (xs:List Int):List Int:=ow xs xs.length
noncomputable def aq (xs:List Int):List Int:=gY (D5 (iQ (si xs) gR qF ((si xs).length/64)))
theorem bn (xs:List Int):(aq xs).length=32:=by rw [aq,aD];simp [D5]
theorem kI (xs:List Int):∀x∈aq xs,0≤x∧x<256:=by
 intro x hx
 simp only [aq,aD,D5,List.mem_map] at hx
 obtain ⟨i,_,rfl⟩:=hx
 simp only [IntKind.wrap,IntKind.signed,IntKind.bits]
 simp
 omega
theorem FX (xs:List Int):nB (iQ xs gR qF (xs.length/64)) (xs.drop (64*(xs.length/64))) xs.length=aq xs:=by
 have hN:64*(xs.length/64)≤xs.length:=by omega
 generalize hn:xs.length/64=N at*
 have hr:(xs.drop (64*N)).length=xs.length-64*N:=List.length_drop ..
 have hk:cU (xs.drop (64*N)).length 64 56=cU xs.length 64 56:=by unfold cU;rw [hr];omega
 have e:ow (xs.drop (64*N)) xs.length=(si xs).drop (64*N):=by
  unfold si ow eJ
  rw [hk,List.append_assoc,List.append_assoc,List.append_assoc,List.append_assoc,List.drop_append_of_le_length hN]
 have et:iQ xs gR qF N=iQ (si xs) gR qF N:=xH _ _ _ (by
  unfold si ow eJ
  rw [List.append_assoc,List.append_assoc,List.take_append_of_le_length hN])
 have hl:((si xs).drop (64*N)).length=(si xs).length-64*N:=List.length_drop ..
 have mS:xs.length≤(si xs).length:=by unfold si ow eJ;simp only [List.length_append];omega
 have hq:(si xs).length/64=N+((si xs).drop (64*N)).length/64:=by rw [hl];omega
 rw [nB,aq,aD,e,et, ←tB,hq]
noncomputable def hC (x:Bool):bu:=mk (P:=Tryz.prog) [Bt,vr,acQ] [] fun i=>if i=10 then some x else none
theorem ug (x:Bool):ag Tryz.prog (hC x):=ah _ au.nil _ _
noncomputable def hB:Code:=aE Tryz.f68
noncomputable def hS (xss:List (List Int)) (d:Blk) (i:Int):St:=⟨slotsOf 19 [(2,.ptr 0 0 0),(3,.ptr 1 0 0),(7,.iN false xss),(8,.int .i64 xss.length),(9,.int .i64 i)],[.b [.ints .u8 32 iB],d],true⟩
section
variable (xss:List (List Int)) (st r:List Int) (n i:Int)
theorem aaH:(aW Tryz.prog (hC true) 60 0 3 (atoms hB) ⟨aO Tryz.f68.ntmps [.iN false xss],[],true⟩).bind (St.cut [2,3,7,8,9] 2)=some (hS xss (dg qF [] 0) 0):=by kernel_rfl
theorem agh:(exec Tryz.prog (hC true) 60 0 (inner (inner (aA 3 hB))) (hS xss (dg st r n) i)).bind (fun r=>(r.2.cut [2,3,7,8,9] 2).map fun q=>(r.1,q))=
  some (.normal,{hS xss (dg (iQ (r++xss.getD i.toNat []) gR st ((r++xss.getD i.toNat []).length/64)) ((r++xss.getD i.toNat []).drop (64*((r++xss.getD i.toNat []).length/64))) (IntKind.i64.wrap (n+(xss.getD i.toNat []).length))) (IntKind.i64.wrap (i+1)) with
   ob:=aa (aa (aa (aa true (decide (i<xss.length))) (cL i xss.length)) (decide (i.toNat<xss.length))) (aa true (decide (st.length=8)&&decide (r.length+(xss.getD i.toNat []).length<274877900000)))}):=by kernel_rfl
theorem agi:(exec Tryz.prog (hC false) 60 0 (inner (inner (aA 3 hB))) (hS xss (dg st r n) i)).bind (fun r=>(r.2.cut [2,3,7,8,9] 2).map fun q=>(r.1,q))=
  some (.exit 0,{hS xss (dg st r n) i with ob:=aa true (!decide (i<xss.length))}):=by kernel_rfl
end
theorem oB {xss:List (List Int)} {j:Nat} (h:j<xss.length):(xss.take (j+1)).flatten=(xss.take j).flatten++xss.getD j []:=by
 rw [List.take_add_one,List.flatten_append,List.getD_eq_getElem?_getD,List.getElem?_eq_getElem h]
 simp
theorem Bu (xss:List (List Int)) (j:Nat):(xss.take j).flatten.length≤xss.flatten.length:=by
 conv=>rhs;rw [←List.take_append_drop j xss,List.flatten_append,List.length_append]
 omega
theorem Pk {xss:List (List Int)} (h1:xss.flatten.length<274877900000) (h2:xss.length≤274877906944):ai Tryz.prog 68 [.iN false xss] [] (.agg [.ints .u8 32 (aq xss.flatten)]) []:=by
 have bY:Tr Tryz.prog none 0 (aA 3 hB) (hS xss (Dz []) 0) .normal (hS xss (Dz xss.flatten) xss.length):=by
  have key:=Tr.loop (P:=Tryz.prog) (ro:=none) (k:=0) 0 (c:=aA 3 hB) (by kernel_rfl) (fun j:Nat=>hS xss (Dz (xss.take j).flatten) j) xss.length (s':=hS xss (Dz xss.flatten) xss.length) (fun j hj=>?_) ?_
  ·exact key
  ·generalize hx:(xss.take j).flatten=xs
   have hl:=Bu xss (j+1)
   rw [oB hj,hx,List.length_append] at hl
   have k:=agh xss (iQ xs gR qF (xs.length/64)) (xs.drop (64*(xs.length/64))) xs.length j
   obtain ⟨e1,e2⟩:=FW xs (xss.getD j [])
   rw [Int.toNat_natCast,e1,e2,wrap_i64 (_+_) (by omega) (by omega),wrap_i64 _ (by omega) (by omega),decide_eq_true (oC qG _),decide_eq_true (show (xs.drop (64*(xs.length/64))).length+(xss.getD j []).length<274877900000 by rw [List.length_drop];omega),
    decide_eq_true (show (j:Int)<xss.length by omega),aK (by omega) (by omega),decide_eq_true hj] at k
   refine Tr.post (Tr.cut (ug true) 60 _ 2 (by omega) k rfl) (bq.same ?_ ?_)
   ·show (hS xss (Dz []) _).t=(hS xss (Dz []) _).t
    rw [show ((j:Int)+1)=((j+1:Nat):Int) by omega]
   ·show [_,_]=[_,_]
    rw [oB hj,hx]
    unfold Dz
    rw [List.length_append,Int.natCast_add]
  ·have k:=agi xss (iQ xss.flatten gR qF (xss.flatten.length/64)) (xss.flatten.drop (64*(xss.flatten.length/64))) xss.flatten.length xss.length
   rw [List.take_length]
   exact Tr.post (Tr.cut (ug false) 60 _ 2 (by omega) k (by simp [aa])) (bq.same rfl rfl)
 rw [←FX]
 refine ai.cu (ug true) 60 4 0 Tryz.func68 (by simp) rfl (fun s' x h=>?_) (s:=hS xss (Dz xss.flatten) xss.length)
  (p:=aa true (aa true (decide ((iQ xss.flatten gR qF (xss.flatten.length/64)).length=8)&&decide ((xss.flatten.drop (64*(xss.flatten.length/64))).length<274877900000)))) (by kernel_rfl) ?_ rfl rfl
 ·refine bf.items (ug true) 60 3 _ 2 (by simp) (aaH xss) rfl (by decide) ?_
  exact bf.item 3 (by decide) (Tr.pre bY (bq.same rfl rfl)) h
 ·rw [decide_eq_true (oC qG _),decide_eq_true (show (xss.flatten.drop (64*(xss.flatten.length/64))).length<274877900000 by rw [List.length_drop];omega)];rfl
noncomputable def Pn:List SV→Option (SV×List Blk×Bool)
 | [.iN false xss]=>some (.agg [.ints .u8 32 (aq xss.flatten)],[],decide (xss.flatten.length<274877900000)&&decide (xss.length≤274877906944))
 |_=>none
noncomputable def nj:Entry Tryz.prog:=.val 68 _ Tryz.func68 (by decide) rfl true 0 Pn fun vs v new e=>by
 unfold Pn at e
 split at e
 ·simp only [Option.some.injEq,Prod.mk.injEq,Bool.and_eq_true,decide_eq_true_eq] at e
  obtain ⟨rfl,rfl,h1,h2⟩:=e
  exact Pk h1 h2
 ·cases e
end Go.Proofs.YtibfpjeeanppjaaGreat.S2
