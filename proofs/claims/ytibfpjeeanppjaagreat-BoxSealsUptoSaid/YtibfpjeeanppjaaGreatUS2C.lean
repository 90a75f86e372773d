/- This file proves the contract of sha's Short: the short digest of its parts side by side. Conditions: lengths that memory bears. -/
import Derived.Test.YtibfpjeeanppjaaGreatUS2B
set_option linter.all false
set_option maxRecDepth 100000
namespace Go.Proofs.YtibfpjeeanppjaaGreat.S2
open Go Go.Sy Sh
theorem vC (p:List Int) (j:Nat):(p.drop (64*j)).take 64=(p.take (64*(j+1))).drop (64*j):=by
 rw [List.drop_take,show 64*(j+1)-64*j=64 by omega]
theorem vD {p q:List Int} (kk s:List Int):∀j,p.take (64*j)=q.take (64*j)→gK p kk s j=gK q kk s j
 |0,_=>rfl
 |j+1,h=>by
  have h0:p.take (64*j)=q.take (64*j):=by
   have:=congrArg (List.take (64*j)) h
   rwa [List.take_take,List.take_take,Nat.min_eq_left (by omega)] at this
  simp only [gK]
  rw [vD kk s j h0,vC,vC,h]
theorem rJ (p kk s:List Int) (N:Nat):∀j,gK p kk s (N+j)=gK (p.drop (64*N)) kk (gK p kk s N) j
 |0=>rfl
 |j+1=>by
  show eZ (gK p kk s (N+j)) ((p.drop (64*(N+j))).take 64) kk=eZ (gK (p.drop (64*N)) kk (gK p kk s N) j) (((p.drop (64*N)).drop (64*j)).take 64) kk
  rw [rJ p kk s N j,List.drop_drop,show 64*N+64*j=64*(N+j) by omega]
noncomputable def Bm (xs:List Int):Blk:=dg (gK xs gB pg (xs.length/64)) (xs.drop (64*(xs.length/64))) xs.length
theorem DH (xs b:List Int):gK (xs.drop (64*(xs.length/64))++b) gB (gK xs gB pg (xs.length/64)) ((xs.drop (64*(xs.length/64))++b).length/64)=gK (xs++b) gB pg ((xs++b).length/64)∧
  (xs.drop (64*(xs.length/64))++b).drop (64*((xs.drop (64*(xs.length/64))++b).length/64))=(xs++b).drop (64*((xs++b).length/64)):=by
 have hN:64*(xs.length/64)≤xs.length:=by omega
 generalize hn:xs.length/64=N at*
 have e:xs.drop (64*N)++b=(xs++b).drop (64*N):=(List.drop_append_of_le_length hN).symm
 have et:gK xs gB pg N=gK (xs++b) gB pg N:=vD _ _ _ (by rw [List.take_append_of_le_length hN])
 have hl:((xs++b).drop (64*N)).length=(xs++b).length-64*N:=List.length_drop ..
 have lT:xs.length≤(xs++b).length:=by simp
 have hq:(xs++b).length/64=N+((xs++b).drop (64*N)).length/64:=by rw [hl];omega
 rw [e,et, ←rJ,hq,List.drop_drop,show 64*N+64*(((xs++b).drop (64*N)).length/64)=64*(N+((xs++b).drop (64*N)).length/64) by omega]
 exact ⟨rfl,rfl⟩
def nP (xs:List Int):List Int:=nc xs xs.length
noncomputable def bn (xs:List Int):List Int:=gz (zm (gK (nP xs) gB pg ((nP xs).length/64)))
theorem eD (xs:List Int):(bn xs).length=32:=by rw [bn,aq];simp [zm]
theorem ni (xs:List Int):∀x∈bn xs,0≤x∧x<256:=by
 intro x hx
 simp only [bn,aq,zm,List.mem_map] at hx
 obtain ⟨i,_,rfl⟩:=hx
 simp only [IntKind.wrap,IntKind.signed,IntKind.bits]
 simp
 omega
theorem DI (xs:List Int):mu (gK xs gB pg (xs.length/64)) (xs.drop (64*(xs.length/64))) xs.length=bn xs:=by
 have hN:64*(xs.length/64)≤xs.length:=by omega
 generalize hn:xs.length/64=N at*
 have hr:(xs.drop (64*N)).length=xs.length-64*N:=List.length_drop ..
 have hk:cR (xs.drop (64*N)).length 64 56=cR xs.length 64 56:=by unfold cR;rw [hr];omega
 have e:nc (xs.drop (64*N)) xs.length=(nP xs).drop (64*N):=by
  unfold nP nc eB
  rw [hk,List.append_assoc,List.append_assoc,List.append_assoc,List.append_assoc,List.drop_append_of_le_length hN]
 have et:gK xs gB pg N=gK (nP xs) gB pg N:=vD _ _ _ (by
  unfold nP nc eB
  rw [List.append_assoc,List.append_assoc,List.take_append_of_le_length hN])
 have hl:((nP xs).drop (64*N)).length=(nP xs).length-64*N:=List.length_drop ..
 have lT:xs.length≤(nP xs).length:=by unfold nP nc eB;simp only [List.length_append];omega
 have hq:(nP xs).length/64=N+((nP xs).drop (64*N)).length/64:=by rw [hl];omega
 rw [mu,bn,aq,e,et, ←rJ,hq]
noncomputable def hC (x:Bool):bK:=mk (P:=Tryz.prog) [ZX,tC,ZY] [] fun i=>if i=10 then some x else none
theorem Fo (x:Bool):ag Tryz.prog (hC x):=ai _ aF.nil _ _
noncomputable def hB:Code:=aH Tryz.f68
noncomputable def hS (xss:List (List Int)) (d:Blk) (i:Int):St:=⟨slotsOf 19 [(2,.ptr 0 0 0),(3,.ptr 1 0 0),(7,.hU false xss),(8,.int .i64 xss.length),(9,.int .i64 i)],[.b [.ints .u8 32 Nq],d],true⟩
section
variable (xss:List (List Int)) (st r:List Int) (n i:Int)
theorem XF:(az Tryz.prog (hC true) 60 0 3 (atoms hB) ⟨aT Tryz.f68.ntmps [.hU false xss],[],true⟩).bind (St.cut [2,3,7,8,9] 2)=some (hS xss (dg pg [] 0) 0):=by kernel_rfl
theorem acH:(exec Tryz.prog (hC true) 60 0 (inner (inner (ak 3 hB))) (hS xss (dg st r n) i)).bind (fun r=>(r.2.cut [2,3,7,8,9] 2).map fun q=>(r.1,q))=
  some (.normal,{hS xss (dg (gK (r++xss.getD i.toNat []) gB st ((r++xss.getD i.toNat []).length/64)) ((r++xss.getD i.toNat []).drop (64*((r++xss.getD i.toNat []).length/64))) (IntKind.i64.wrap (n+(xss.getD i.toNat []).length))) (IntKind.i64.wrap (i+1)) with
   ob:=aa (aa (aa (aa true (decide (i<xss.length))) (cK i xss.length)) (decide (i.toNat<xss.length))) (aa true (decide (st.length=8)&&decide (r.length+(xss.getD i.toNat []).length<274877900000)))}):=by kernel_rfl
theorem acI:(exec Tryz.prog (hC false) 60 0 (inner (inner (ak 3 hB))) (hS xss (dg st r n) i)).bind (fun r=>(r.2.cut [2,3,7,8,9] 2).map fun q=>(r.1,q))=
  some (.exit 0,{hS xss (dg st r n) i with ob:=aa true (!decide (i<xss.length))}):=by kernel_rfl
end
theorem nj {xss:List (List Int)} {j:Nat} (h:j<xss.length):(xss.take (j+1)).flatten=(xss.take j).flatten++xss.getD j []:=by
 rw [List.take_add_one,List.flatten_append,List.getD_eq_getElem?_getD,List.getElem?_eq_getElem h]
 simp
theorem zN (xss:List (List Int)) (j:Nat):(xss.take j).flatten.length≤xss.flatten.length:=by
 conv=>rhs;rw [←List.take_append_drop j xss,List.flatten_append,List.length_append]
 omega
theorem MU {xss:List (List Int)} (h1:xss.flatten.length<274877900000) (h2:xss.length≤274877906944):aj Tryz.prog 68 [.hU false xss] [] (.agg [.ints .u8 32 (bn xss.flatten)]) []:=by
 have bS:Tr Tryz.prog none 0 (ak 3 hB) (hS xss (Bm []) 0) .normal (hS xss (Bm xss.flatten) xss.length):=by
  have key:=Tr.loop (P:=Tryz.prog) (ro:=none) (k:=0) 0 (c:=ak 3 hB) (by kernel_rfl) (fun j:Nat=>hS xss (Bm (xss.take j).flatten) j) xss.length (s':=hS xss (Bm xss.flatten) xss.length) (fun j hj=>?_) ?_
  ·exact key
  ·generalize hx:(xss.take j).flatten=xs
   have hl:=zN xss (j+1)
   rw [nj hj,hx,List.length_append] at hl
   have k:=acH xss (gK xs gB pg (xs.length/64)) (xs.drop (64*(xs.length/64))) xs.length j
   obtain ⟨e1,e2⟩:=DH xs (xss.getD j [])
   rw [Int.toNat_natCast,e1,e2,wrap_i64 (_+_) (by omega) (by omega),wrap_i64 _ (by omega) (by omega),decide_eq_true (nk pQ _),decide_eq_true (show (xs.drop (64*(xs.length/64))).length+(xss.getD j []).length<274877900000 by rw [List.length_drop];omega),
    decide_eq_true (show (j:Int)<xss.length by omega),aK (by omega) (by omega),decide_eq_true hj] at k
   refine Tr.post (Tr.cut (Fo true) 60 _ 2 (by omega) k rfl) (aU.same ?_ ?_)
   ·show (hS xss (Bm []) _).t=(hS xss (Bm []) _).t
    rw [show ((j:Int)+1)=((j+1:Nat):Int) by omega]
   ·show [_,_]=[_,_]
    rw [nj hj,hx]
    unfold Bm
    rw [List.length_append,Int.natCast_add]
  ·have k:=acI xss (gK xss.flatten gB pg (xss.flatten.length/64)) (xss.flatten.drop (64*(xss.flatten.length/64))) xss.flatten.length xss.length
   rw [List.take_length]
   exact Tr.post (Tr.cut (Fo false) 60 _ 2 (by omega) k (by simp [aa])) (aU.same rfl rfl)
 rw [←DI]
 refine aj.cg (Fo true) 60 4 0 Tryz.func68 (by simp) rfl (fun s' x h=>?_) (s:=hS xss (Bm xss.flatten) xss.length)
  (p:=aa true (aa true (decide ((gK xss.flatten gB pg (xss.flatten.length/64)).length=8)&&decide ((xss.flatten.drop (64*(xss.flatten.length/64))).length<274877900000)))) (by kernel_rfl) ?_ rfl rfl
 ·refine aG.items (Fo true) 60 3 _ 2 (by simp) (XF xss) rfl (by decide) ?_
  exact aG.item 3 (by decide) (Tr.pre bS (aU.same rfl rfl)) h
 ·rw [decide_eq_true (nk pQ _),decide_eq_true (show (xss.flatten.drop (64*(xss.flatten.length/64))).length<274877900000 by rw [List.length_drop];omega)];rfl
noncomputable def MV:List SV→Option (SV×List Blk×Bool)
 | [.hU false xss]=>some (.agg [.ints .u8 32 (bn xss.flatten)],[],decide (xss.flatten.length<274877900000)&&decide (xss.length≤274877906944))
 |_=>none
noncomputable def BI:Entry Tryz.prog:=.val 68 _ Tryz.func68 (by decide) rfl true 0 MV fun vs v new e=>by
 unfold MV at e
 split at e
 ·simp only [Option.some.injEq,Prod.mk.injEq,Bool.and_eq_true,decide_eq_true_eq] at e
  obtain ⟨rfl,rfl,h1,h2⟩:=e
  exact MU h1 h2
 ·cases e
end Go.Proofs.YtibfpjeeanppjaaGreat.S2
