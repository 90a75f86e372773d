/- This file holds the texts NoC, NoD, NoE, a section each. No conditions beyond those in the theorems. -/
import Derived.Test.YtibfpjeeanppjaaGreatYNoB
set_option linter.all false
set_option maxRecDepth 100000
section
namespace Go.Proofs.YtibfpjeeanppjaaGreat.No
open Go Go.Sy Sh La
noncomputable def tnC:bu:=mk (P:=Tryz.prog) [] []
theorem fG:ag Tryz.prog tnC:=ah _ au.nil _ _
def cr (bg:Bool) (ak:Int):Bool:=bif ak==0 then bg else bif ak==1 then !bg else false
section
variable {key ch ha os op pe ms mp th:List Int} {n:Int} {has:Bool}
theorem SP {bg:Bool} {ak:Int} (h:ak=0∨ak=1∨ak=2):ai Tryz.prog 30 [.ptr 0 0 0] [hb key has n ch ha bg ak os op pe ms mp th] (.bool (cr bg ak)) [hb key has n ch ha bg ak os op pe ms mp th]:=by
 rcases h with rfl|rfl|rfl<;>cases bg
 ·exact aQ fG 60 Tryz.func30 1 (by simp) (p:=true) (by kernel_rfl) rfl rfl rfl
 ·exact aQ fG 60 Tryz.func30 1 (by simp) (p:=true) (by kernel_rfl) rfl rfl rfl
 ·exact aQ fG 60 Tryz.func30 1 (by simp) (p:=true) (by kernel_rfl) rfl rfl rfl
 ·exact aQ fG 60 Tryz.func30 1 (by simp) (p:=true) (by kernel_rfl) rfl rfl rfl
 ·exact aQ fG 60 Tryz.func30 1 (by simp) (p:=true) (by kernel_rfl) rfl rfl rfl
 ·exact aQ fG 60 Tryz.func30 1 (by simp) (p:=true) (by kernel_rfl) rfl rfl rfl
theorem SR {bg:Bool} {ak:Int} (h:ak=0∨ak=1∨ak=2):ai Tryz.prog 29 [.ptr 0 0 0] [hb key has n ch ha bg ak os op pe ms mp th] (.bool (ak==2)) [hb key has n ch ha bg ak os op pe ms mp th]:=by
 rcases h with rfl|rfl|rfl
 ·exact aQ fG 60 Tryz.func29 1 (by simp) (p:=true) (by kernel_rfl) rfl rfl rfl
 ·exact aQ fG 60 Tryz.func29 1 (by simp) (p:=true) (by kernel_rfl) rfl rfl rfl
 ·exact aQ fG 60 Tryz.func29 1 (by simp) (p:=true) (by kernel_rfl) rfl rfl rfl
end
def cN (ak:Int):Bool:=ak==0||ak==1||ak==2
theorem mG {ak:Int} (h:cN ak=true):ak=0∨ak=1∨ak=2:=by
 unfold cN at h
 simp only [Bool.or_eq_true,beq_iff_eq] at h
 omega
def CN (vs:List SV):List Nat:=match vs with
 | .ptr b _ _::_=>[b]
 |_=>[]
def CO:List SV→List Blk→Option (SV×Bool)
 | [.ptr 0 0 0],[.b [.ints .u8 32 _,.bool _,.int .i64 _,.ints .u8 32 _,.ints .u8 32 _,.bool bg,.int .i64 ak,.ints .u8 32 _,.ints .u8 32 _,.ints .u8 32 _,.ints .u8 32 _,.ints .u8 32 _,.ints .u8 32 _]]=>some (.bool (cr bg ak),cN ak)
 |_,_=>none
noncomputable def om:Entry Tryz.prog:=.Qo 30 _ Tryz.func30 (by decide) rfl CN CO fun vs h0 v e=>by
 unfold CO at e
 split at e
 ·simp only [Option.some.injEq,Prod.mk.injEq] at e
  obtain ⟨rfl,h⟩:=e
  exact SP (mG h)
 ·cases e
def VI:List SV→List Blk→Option (SV×Bool)
 | [.ptr 0 0 0],[.b [.ints .u8 32 _,.bool _,.int .i64 _,.ints .u8 32 _,.ints .u8 32 _,.bool _,.int .i64 ak,.ints .u8 32 _,.ints .u8 32 _,.ints .u8 32 _,.ints .u8 32 _,.ints .u8 32 _,.ints .u8 32 _]]=>some (.bool (ak==2),cN ak)
 |_,_=>none
noncomputable def VJ:Entry Tryz.prog:=.Qo 29 _ Tryz.func29 (by decide) rfl CN VI fun vs h0 v e=>by
 unfold VI at e
 split at e
 ·simp only [Option.some.injEq,Prod.mk.injEq] at e
  obtain ⟨rfl,h⟩:=e
  exact SR (mG h)
 ·cases e
end Go.Proofs.YtibfpjeeanppjaaGreat.No
end
section
namespace Go.Proofs.YtibfpjeeanppjaaGreat.No
open Go Go.Sy Sh La
abbrev K4:=List Int×List Int×List Int×List Int
noncomputable def eo (q:K4) (ch:List Int):List Int:=Y5 ch (eu q.1 q.2.1) (eu q.2.2.1 q.2.2.2)
noncomputable def jc (q:K4) (ch:List Int):List Int:=NC ch (eu q.1 q.2.1) (eu q.2.2.1 q.2.2.2)
noncomputable def cD (q:K4):Bool:=gW q.1 q.2.1 q.2.2.1 q.2.2.2
noncomputable def m7 (q:K4) (ch ha bN gf:List Int):List Int:=Cp.uO (eo q ch) (S2.aq (ha++bN)) 0 gf
theorem vf (q:K4) (ch ha bN gf:List Int):(m7 q ch ha bN gf).length=gf.length+16:=by unfold m7 Cp.uO;rw [Ae.fk]
noncomputable def qv (ha bN ct:List Int):List Int:=S2.aq (S2.aq (ha++bN)++ct)
noncomputable def Im:List (FuncId×Func):=[(50,Tryz.f50)]
theorem Hl:au Tryz.prog Im:=au.cons Tryz.func50 (by decide) au.nil
noncomputable def wC:bu:=mk (P:=Tryz.prog) [om,za,Bm,FQ,Sh.jf] Im fun i=>if i=17 then some false else none
theorem xu:ag Tryz.prog wC:=ah _ Hl _ _
noncomputable def wO (q:K4) (ch ha bk gf:List Int):Bool:=
 aa (aa (aa (aa (aa (aa true (!decide ((gf.length:Int)>1024))) (aa true (aa true (Re.aj bk))))
  (aa true (decide (ha.length=32)&&decide ((aJ bk 9).length=32)&&decide (ch.length=32)&&gW q.1 q.2.1 q.2.2.1 q.2.2.2)))
  (aa true (decide ((S2.aq (ha++aJ bk 9)).length=32)&&true&&true&&decide (gf.length≤1048576)))) (aa true true))
  (aa (aa true (aa (aa true (decide ((aJ bk 9).length=32)&&true)) (decide ((aJ bk 9).length=32)))) (decide ([aJ bk 9,m7 q ch ha (aJ bk 9) gf].flatten.length≤274877906944)&&true))
theorem FI {q:K4} {ch ha bk gf:List Int} (h1:ha.length=32) (h3:ch.length=32) (he:Re.aj bk=true) (hp:gf.length≤1024) (h:cD q=true):wO q ch ha bk gf=true:=by
 have hf:[aJ bk 9,m7 q ch ha (aJ bk 9) gf].flatten.length≤274877906944:=by
  simp only [List.flatten_cons,List.flatten_nil,List.length_append,List.length_nil,vf,cM];omega
 have hm:gW q.1 q.2.1 q.2.2.1 q.2.2.2=true:=h
 unfold wO
 rw [h1,h3,he,hm,cM,S2.bn,decide_eq_false (show ¬(gf.length:Int)>1024 by omega),decide_eq_true (show gf.length≤1048576 by omega),decide_eq_true hf]
 rfl
section
variable {key ch ha os op pe ms mp th bk gf x:List Int} {n:Int} {has:Bool}
theorem CP {bg:Bool} {ak:Int} (hs:ak=0∧bg=true∨ak=1∧bg=false) (h1:ha.length=32) (h3:ch.length=32) (he:Re.aj bk=true) (hp:gf.length≤1024) (h:cD (meets true ak os pe bk th)=true):
  ai Tryz.prog 24 [.ptr 0 0 0,.agg [.ints .u8 32 bk],.ro false .u8 gf] [hb key has n ch ha bg ak os op pe ms mp th] (.aT [.ro true .u8 (aJ bk 9++m7 (meets true ak os pe bk th) ch ha (aJ bk 9) gf),.nl .nilIface])
   [hb (eo (meets true ak os pe bk th) ch) true 1 (jc (meets true ak os pe bk th) ch) (qv ha (aJ bk 9) (m7 (meets true ak os pe bk th) ch ha (aJ bk 9) gf)) bg (ak+1) os op pe bk (aJ bk 9) th]:=by
 have k:ai Tryz.prog 24 [.ptr 0 0 0,.agg [.ints .u8 32 bk],.ro false .u8 gf] [hb key has n ch ha bg ak os op pe ms mp th] (.aT [.ro true .u8 [aJ bk 9,m7 (meets true ak os pe bk th) ch ha (aJ bk 9) gf].flatten,.nl .nilIface])
   [hb (eo (meets true ak os pe bk th) ch) true 1 (jc (meets true ak os pe bk th) ch) (qv ha (aJ bk 9) (m7 (meets true ak os pe bk th) ch ha (aJ bk 9) gf)) bg (ak+1) os op pe bk (aJ bk 9) th]:=by
  have ho:=FI h1 h3 he hp h
  rcases hs with ⟨rfl,rfl⟩|⟨rfl,rfl⟩
  ·exact aQ xu 60 Tryz.func24 1 (by simp) (by kernel_rfl) ho rfl rfl
  ·exact aQ xu 60 Tryz.func24 1 (by simp) (by kernel_rfl) ho rfl rfl
 rw [Cp.vG] at k
 exact k
noncomputable def rC:bu:=mk (P:=Tryz.prog) [om,Bm,FR] [] fun i=>if i=29||i=25 then some false else none
theorem gG:ag Tryz.prog rC:=ah _ au.nil _ _
noncomputable def rO (q:K4) (ch ha x D:List Int):Bool:=
 aa (aa (aa (aa (aa (aa (aa (aa true (!decide ((x.length:Int)<48))) (!decide ((x.length:Int)>1072))) (aa true (true&&decide ((32:Int)≤(x.length:Int))))) (decide (31+1≤(x.take 32).length))) (true&&decide (0+32≤(x.take 32).length)))
  (aa true (decide (ha.length=32)&&decide (D.length=32)&&decide (ch.length=32)&&gW q.1 q.2.1 q.2.2.1 q.2.2.2))) (aa true (aa true (true&&decide ((32:Int)≤(x.length:Int))))))
  (aa true (decide ((S2.aq (ha++D)).length=32)&&true&&true&&decide ((x.drop 32).length≤1048592)&&Ae.bJ (eo q ch) (Ae.aI 0) (S2.aq (ha++D)) (x.drop 32)))
theorem SS {q:K4} {ch ha x D:List Int} (h1:ha.length=32) (h3:ch.length=32) (h0:48≤x.length) (hx:x.length≤1072) (hD:D.length=32) (h:cD q=true) (ho:Ae.bJ (eo q ch) (Ae.aI 0) (S2.aq (ha++D)) (x.drop 32)=true):rO q ch ha x D=true:=by
 have hm:gW q.1 q.2.1 q.2.2.1 q.2.2.2=true:=h
 have ht:(x.take 32).length=32:=by rw [List.length_take];omega
 unfold rO
 rw [h1,h3,hm,ho,hD,ht,S2.bn,decide_eq_false (show ¬(x.length:Int)<48 by omega),decide_eq_false (show ¬(x.length:Int)>1072 by omega),decide_eq_true (show (32:Int)≤x.length by omega),decide_eq_true (show (x.drop 32).length≤1048592 by rw [List.length_drop];omega)]
 rfl
theorem Ho {bg:Bool} {ak:Int} (hs:ak=0∧bg=false∨ak=1∧bg=true) (h1:ha.length=32) (h3:ch.length=32) (h0:48≤x.length) (hx:x.length≤1072) (h:cD (meets false ak os pe ms (x.take 32))=true)
  (ho:Ae.bJ (eo (meets false ak os pe ms (x.take 32)) ch) (Ae.aI 0) (S2.aq (ha++x.take 32)) (x.drop 32)=true):
  ai Tryz.prog 28 [.ptr 0 0 0,.ro false .u8 x] [hb key has n ch ha bg ak os op pe ms mp th] (.aT [.ro true .u8 (Ae.cn (eo (meets false ak os pe ms (x.take 32)) ch) (Ae.aI 0) (x.drop 32)),.nl .nilIface])
   [hb (eo (meets false ak os pe ms (x.take 32)) ch) true 1 (jc (meets false ak os pe ms (x.take 32)) ch) (qv ha (x.take 32) (x.drop 32)) bg (ak+1) os op pe ms mp (x.take 32)]:=by
 have e:Bx.tG x=x.take 32:=Bx.vB x
 have k:ai Tryz.prog 28 [.ptr 0 0 0,.ro false .u8 x] [hb key has n ch ha bg ak os op pe ms mp th] (.aT [.ro true .u8 (Ae.cn (eo (meets false ak os pe ms (Bx.tG x)) ch) (Ae.aI 0) (x.drop 32)),.nl .nilIface])
   [hb (eo (meets false ak os pe ms (Bx.tG x)) ch) true 1 (jc (meets false ak os pe ms (Bx.tG x)) ch) (qv ha (Bx.tG x) (x.drop 32)) bg (ak+1) os op pe ms mp (Bx.tG x)]:=by
  have hr:rO (meets false ak os pe ms (Bx.tG x)) ch ha x (Bx.tG x)=true:=by
   rw [e]
   exact SS h1 h3 h0 hx (by rw [List.length_take];omega) h ho
  rcases hs with ⟨rfl,rfl⟩|⟨rfl,rfl⟩
  ·exact aQ gG 60 Tryz.func28 1 (by simp) (by kernel_rfl) hr rfl rfl
  ·exact aQ gG 60 Tryz.func28 1 (by simp) (by kernel_rfl) hr rfl rfl
 rw [e] at k
 exact k
end
end Go.Proofs.YtibfpjeeanppjaaGreat.No
end
section
namespace Go.Proofs.YtibfpjeeanppjaaGreat.No
open Go Go.Sy Sh La
def nmL:List Int:=[78,111,105,115,101,95,75,75,95,50,53,53,49,57,95,67,104,97,67,104,97,80,111,108,121,95,83,72,65,50,53,54]
noncomputable def kF:List Int:=S2.aq nmL
noncomputable def tc (bg:Bool) (op pe aV:List Int):List Int:=bif bg then S2.aq (S2.aq (S2.aq (kF++aV)++op)++pe) else S2.aq (S2.aq (S2.aq (kF++aV)++pe)++op)
theorem CQ (bg:Bool) (op pe aV:List Int):(tc bg op pe aV).length=32:=by cases bg<;>exact S2.bn _
noncomputable def nC:bu:=mk (P:=Tryz.prog) [Cp.vH,fh] []
theorem VK:ag Tryz.prog nC:=ah _ au.nil _ _
noncomputable def nO (aV a b:List Int):Bool:=
 aa (aa (aa true (aa true (decide (kF.length=32)&&decide (aV.length<270000000000)))) (aa true (decide ((S2.aq (kF++aV)).length=32)&&decide (a.length=32)))) (aa true (decide ((S2.aq (S2.aq (kF++aV)++a)).length=32)&&decide (b.length=32)))
theorem Hp {aV a b:List Int} (h:aV.length<270000000000) (ha:a.length=32) (hb:b.length=32):nO aV a b=true:=by
 unfold nO kF
 rw [S2.bn,S2.bn,S2.bn,ha,hb,decide_eq_true h];rfl
section
variable (os op pe aV:List Int)
theorem n_t:(br Tryz.prog nC 60 Tryz.f23 [.bool true,.agg [.ints .u8 32 os,.ints .u8 32 op],.agg [.ints .u8 32 pe],.ro false .u8 aV] []).map (fun x=>(x.1,x.2.1.take 4,x.2.2))=
  some (.ptr 3 0 0,[.b [.ints .u8 32 os,.ints .u8 32 op],.b [.ints .u8 32 pe],Cp.st Cp.iB false 0 kF kF,hb Cp.iB false 0 kF (tc true op pe aV) true 0 os op pe Cp.iB Cp.iB Cp.iB],nO aV op pe):=by kernel_rfl
theorem n_f:(br Tryz.prog nC 60 Tryz.f23 [.bool false,.agg [.ints .u8 32 os,.ints .u8 32 op],.agg [.ints .u8 32 pe],.ro false .u8 aV] []).map (fun x=>(x.1,x.2.1.take 4,x.2.2))=
  some (.ptr 3 0 0,[.b [.ints .u8 32 os,.ints .u8 32 op],.b [.ints .u8 32 pe],Cp.st Cp.iB false 0 kF kF,hb Cp.iB false 0 kF (tc false op pe aV) false 0 os op pe Cp.iB Cp.iB Cp.iB],nO aV pe op):=by kernel_rfl
end
theorem nu {bg:Bool} {os op pe aV:List Int} (h:aV.length<270000000000) (h1:op.length=32) (h2:pe.length=32):
  ai Tryz.prog 23 [.bool bg,.agg [.ints .u8 32 os,.ints .u8 32 op],.agg [.ints .u8 32 pe],.ro false .u8 aV] [] (.ptr 0 0 0) [hb Cp.iB false 0 kF (tc bg op pe aV) bg 0 os op pe Cp.iB Cp.iB Cp.iB]:=by
 cases bg with
 |true=>exact ai.KE [3] (aQ VK 60 Tryz.func23 4 (by simp) (n_t os op pe aV) (Hp h h1 h2) rfl rfl) (by kernel_rfl)
 |false=>exact ai.KE [3] (aQ VK 60 Tryz.func23 4 (by simp) (n_f os op pe aV) (Hp h h2 h1) rfl rfl) (by kernel_rfl)
noncomputable def newF:List SV→Option (SV×List Blk×Bool)
 | [.bool bg,.agg [.ints .u8 32 os,.ints .u8 32 op],.agg [.ints .u8 32 pe],.ro false .u8 aV]=>some (.ptr 0 0 0,[hb Cp.iB false 0 kF (tc bg op pe aV) bg 0 os op pe Cp.iB Cp.iB Cp.iB],decide (aV.length<270000000000)&&decide (op.length=32)&&decide (pe.length=32))
 | [.bool bg,.agg [.ints .u8 32 os,.ints .u8 32 op],.agg [.ints .u8 32 pe],.nl (.slice none 0 0)]=>some (.ptr 0 0 0,[hb Cp.iB false 0 kF (tc bg op pe []) bg 0 os op pe Cp.iB Cp.iB Cp.iB],decide (op.length=32)&&decide (pe.length=32))
 |_=>none
noncomputable def Bt:Entry Tryz.prog:=.val 23 _ Tryz.func23 (by decide) rfl true 1 newF fun vs v new e=>by
 unfold newF at e
 split at e
 ·simp only [Option.some.injEq,Prod.mk.injEq,Bool.and_eq_true,decide_eq_true_eq] at e
  obtain ⟨rfl,rfl,⟨h,h1⟩,h2⟩:=e
  exact nu h h1 h2
 ·simp only [Option.some.injEq,Prod.mk.injEq,Bool.and_eq_true,decide_eq_true_eq] at e
  obtain ⟨rfl,rfl,h1,h2⟩:=e
  exact ai.conv (nu (aV:=[]) (by decide) h1 h2) ⟨VE.refl _,VE.refl _,VE.refl _,VE.sw _ _,trivial⟩ trivial (VE.refl _) ⟨PE.refl _,trivial⟩
 ·cases e
noncomputable def afh:Entry Tryz.prog:=.val 23 _ Tryz.func23 (by decide) rfl false 1 newF fun vs v new e=>by
 unfold newF at e
 split at e
 ·simp only [Option.some.injEq,Prod.mk.injEq,Bool.and_eq_true,decide_eq_true_eq] at e
  obtain ⟨rfl,rfl,⟨h,h1⟩,h2⟩:=e
  exact nu h h1 h2
 ·simp only [Option.some.injEq,Prod.mk.injEq,Bool.and_eq_true,decide_eq_true_eq] at e
  obtain ⟨rfl,rfl,h1,h2⟩:=e
  exact ai.conv (nu (aV:=[]) (by decide) h1 h2) ⟨VE.refl _,VE.refl _,VE.refl _,VE.sw _ _,trivial⟩ trivial (VE.refl _) ⟨PE.refl _,trivial⟩
 ·cases e
noncomputable def wrR (bg:Bool) (ak:Int) (bk gf ch ha os op pe th:List Int):Option (SV×List Blk×Bool):=
 let q:=meets true ak os pe bk th
 bif (ak==0&&bg)||(ak==1&&!bg) then some (.aT [.ro true .u8 (aJ bk 9++m7 q ch ha (aJ bk 9) gf),.nl .nilIface],[hb (eo q ch) true 1 (jc q ch) (qv ha (aJ bk 9) (m7 q ch ha (aJ bk 9) gf)) bg (ak+1) os op pe bk (aJ bk 9) th],
  decide (ha.length=32)&&decide (ch.length=32)&&Re.aj bk&&decide (gf.length≤1024)&&cD q) else none
noncomputable def ND:List SV→List Blk→Option (SV×List Blk×Bool)
 | [.ptr 0 0 0,.agg [.ints .u8 32 bk],.ro false .u8 gf],[.b [.ints .u8 32 key,.bool has,.int .i64 n,.ints .u8 32 ch,.ints .u8 32 ha,.bool bg,.int .i64 ak,.ints .u8 32 os,.ints .u8 32 op,.ints .u8 32 pe,.ints .u8 32 ms,.ints .u8 32 mp,.ints .u8 32 th]]=>wrR bg ak bk gf ch ha os op pe th
 | [.ptr 0 0 0,.agg [.ints .u8 32 bk],.nl (.slice none 0 0)],[.b [.ints .u8 32 key,.bool has,.int .i64 n,.ints .u8 32 ch,.ints .u8 32 ha,.bool bg,.int .i64 ak,.ints .u8 32 os,.ints .u8 32 op,.ints .u8 32 pe,.ints .u8 32 ms,.ints .u8 32 mp,.ints .u8 32 th]]=>wrR bg ak bk [] ch ha os op pe th
 |_,_=>none
theorem afi {bg:Bool} {ak:Int} (h:((ak==0&&bg)||(ak==1&&!bg))=true):ak=0∧bg=true∨ak=1∧bg=false:=by simpa using h
theorem NF {key ch ha os op pe ms mp th bk gf:List Int} {n ak:Int} {has bg:Bool} {v a:SV} {h1:List Blk} (hv:VE a (.ro false .u8 gf)) (e:wrR bg ak bk gf ch ha os op pe th=some (v,h1,true)):
  ai Tryz.prog 24 [.ptr 0 0 0,.agg [.ints .u8 32 bk],a] [hb key has n ch ha bg ak os op pe ms mp th] v h1:=by
 unfold wrR at e
 cases hs:((ak==0&&bg)||(ak==1&&!bg)) with
 |true=>
  rw [hs] at e
  simp only [cond_true,Option.some.injEq,Prod.mk.injEq,Bool.and_eq_true,decide_eq_true_eq] at e
  obtain ⟨rfl,rfl,⟨⟨⟨a,b⟩,c⟩,d⟩,m⟩:=e
  exact ai.conv (CP (afi hs) a b c d m) ⟨VE.refl _,VE.refl _,hv,trivial⟩ ⟨PE.refl _,trivial⟩ (VE.refl _) ⟨PE.refl _,trivial⟩
 |false=>rw [hs] at e;cases e
noncomputable def Za:Entry Tryz.prog:=.mut 24 _ Tryz.func24 (by decide) rfl Cp.iC 0 ND fun vs h0 v h1 e=>by
 unfold ND at e
 split at e
 ·exact NF (VE.refl _) e
 ·exact NF (VE.sw _ _) e
 ·cases e
noncomputable def rdR (bg:Bool) (ak:Int) (x ch ha os op pe ms mp:List Int):Option (SV×List Blk×Bool):=
 let q:=meets false ak os pe ms (x.take 32)
 bif (ak==0&&!bg)||(ak==1&&bg) then some (.aT [.ro true .u8 (Ae.cn (eo q ch) (Ae.aI 0) (x.drop 32)),.nl .nilIface],[hb (eo q ch) true 1 (jc q ch) (qv ha (x.take 32) (x.drop 32)) bg (ak+1) os op pe ms mp (x.take 32)],
  decide (ha.length=32)&&decide (ch.length=32)&&decide (48≤x.length)&&decide (x.length≤1072)&&cD q&&Ae.bJ (eo q ch) (Ae.aI 0) (S2.aq (ha++x.take 32)) (x.drop 32)) else none
noncomputable def CR:List SV→List Blk→Option (SV×List Blk×Bool)
 | [.ptr 0 0 0,.ro false .u8 x],[.b [.ints .u8 32 key,.bool has,.int .i64 n,.ints .u8 32 ch,.ints .u8 32 ha,.bool bg,.int .i64 ak,.ints .u8 32 os,.ints .u8 32 op,.ints .u8 32 pe,.ints .u8 32 ms,.ints .u8 32 mp,.ints .u8 32 th]]=>rdR bg ak x ch ha os op pe ms mp
 |_,_=>none
theorem NG {bg:Bool} {ak:Int} (h:((ak==0&&!bg)||(ak==1&&bg))=true):ak=0∧bg=false∨ak=1∧bg=true:=by simpa using h
noncomputable def VL:Entry Tryz.prog:=.mut 28 _ Tryz.func28 (by decide) rfl Cp.iC 0 CR fun vs h0 v h1 e=>by
 unfold CR at e
 split at e
 ·rename_i x key has n ch ha bg ak os op pe ms mp th
  unfold rdR at e
  cases hs:((ak==0&&!bg)||(ak==1&&bg)) with
  |true=>
   rw [hs] at e
   simp only [cond_true,Option.some.injEq,Prod.mk.injEq,Bool.and_eq_true,decide_eq_true_eq] at e
   obtain ⟨rfl,rfl,⟨⟨⟨⟨a,b⟩,c⟩,d⟩,m⟩,o⟩:=e
   exact Ho (NG hs) a b c d m o
  |false=>rw [hs] at e;cases e
 ·cases e
noncomputable def kC:bu:=mk (P:=Tryz.prog) [VJ,Cp.Iq] [(62,Tryz.f62)]
theorem Hq:ag Tryz.prog kC:=ah _ (au.cons Tryz.func62 (by decide) au.nil) _ _
noncomputable def hC:bu:=mk (P:=Tryz.prog) [] [(61,Tryz.f61)]
theorem ug:ag Tryz.prog hC:=ah _ (au.cons Tryz.func61 (by decide) au.nil) _ _
noncomputable def VM (bg:Bool) (ak:Int) (ch:List Int):SV:=bif ak==2 then (bif bg then .aT [.agg [.ints .u8 32 (Cp.lI ch)],.agg [.ints .u8 32 (Cp.sk ch)],.nl .nilIface] else .aT [.agg [.ints .u8 32 (Cp.sk ch)],.agg [.ints .u8 32 (Cp.lI ch)],.nl .nilIface])
 else .aT [.agg [.ints .u8 32 gR],.agg [.ints .u8 32 gR],.iface 78 (.int .i64 10)]
section
variable {key ch ha os op pe ms mp th:List Int} {n ak:Int} {has bg:Bool}
theorem vg (h:ak=0∨ak=1∨ak=2) (hc:ch.length=32):ai Tryz.prog 34 [.ptr 0 0 0] [hb key has n ch ha bg ak os op pe ms mp th] (VM bg ak ch) [hb key has n ch ha bg ak os op pe ms mp th]:=by
 have ho:aa true (aa true (decide (ch.length=32)))=true:=by rw [hc];rfl
 rcases h with rfl|rfl|rfl
 ·exact aQ Hq 60 Tryz.func34 1 (by simp) (p:=true) (by kernel_rfl) rfl rfl rfl
 ·exact aQ Hq 60 Tryz.func34 1 (by simp) (p:=true) (by kernel_rfl) rfl rfl rfl
 ·cases bg with
  |true=>exact aQ Hq 60 Tryz.func34 1 (by simp) (p:=aa true (aa true (aa true (decide (ch.length=32))))) (by kernel_rfl) (by rw [ho];rfl) rfl rfl
  |false=>exact aQ Hq 60 Tryz.func34 1 (by simp) (p:=aa true (aa true (aa true (decide (ch.length=32))))) (by kernel_rfl) (by rw [ho];rfl) rfl rfl
theorem SU:ai Tryz.prog 32 [.ptr 0 0 0] [hb key has n ch ha bg ak os op pe ms mp th] (.agg [.ints .u8 32 ha]) [hb key has n ch ha bg ak os op pe ms mp th]:=
 aQ ug 60 Tryz.func32 1 (by simp) (p:=true) (by kernel_rfl) rfl rfl rfl
end
noncomputable def CS:List SV→List Blk→Option (SV×Bool)
 | [.ptr 0 0 0],[.b [.ints .u8 32 key,.bool has,.int .i64 n,.ints .u8 32 ch,.ints .u8 32 ha,.bool bg,.int .i64 ak,.ints .u8 32 os,.ints .u8 32 op,.ints .u8 32 pe,.ints .u8 32 ms,.ints .u8 32 mp,.ints .u8 32 th]]=>some (VM bg ak ch,cN ak&&decide (ch.length=32))
 |_,_=>none
noncomputable def NH:Entry Tryz.prog:=.Qo 34 _ Tryz.func34 (by decide) rfl CN CS fun vs h0 v e=>by
 unfold CS at e
 split at e
 ·simp only [Option.some.injEq,Prod.mk.injEq,Bool.and_eq_true,decide_eq_true_eq] at e
  obtain ⟨rfl,h,hc⟩:=e
  exact vg (mG h) hc
 ·cases e
def VN:List SV→List Blk→Option (SV×Bool)
 | [.ptr 0 0 0],[.b [.ints .u8 32 key,.bool has,.int .i64 n,.ints .u8 32 ch,.ints .u8 32 ha,.bool bg,.int .i64 ak,.ints .u8 32 os,.ints .u8 32 op,.ints .u8 32 pe,.ints .u8 32 ms,.ints .u8 32 mp,.ints .u8 32 th]]=>some (.agg [.ints .u8 32 ha],true)
 |_,_=>none
noncomputable def afj:Entry Tryz.prog:=.Qo 32 _ Tryz.func32 (by decide) rfl CN VN fun vs h0 v e=>by
 unfold VN at e
 split at e
 ·simp only [Option.some.injEq,Prod.mk.injEq,and_true] at e
  subst e
  exact SU
 ·cases e
end Go.Proofs.YtibfpjeeanppjaaGreat.No
end
