/- This file holds the texts NoA, NoB, a section each. No conditions beyond those in the theorems. -/
import Derived.Test.YtibfpjeeanppjaaGreatYCpB
import Derived.Test.YtibfpjeeanppjaaGreatYBnP
import Derived.Test.YtibfpjeeanppjaaGreatYBxB
set_option linter.all false
set_option maxRecDepth 100000
section
namespace Go.Proofs.YtibfpjeeanppjaaGreat.No
open Go Go.Sy Sh
abbrev hb (key:List Int) (has:Bool) (n:Int) (ch ha:List Int) (bg:Bool) (ak:Int) (os op pe ms mp th:List Int):Blk:=
 .b [.ints .u8 32 key,.bool has,.int .i64 n,.ints .u8 32 ch,.ints .u8 32 ha,.bool bg,.int .i64 ak,.ints .u8 32 os,.ints .u8 32 op,.ints .u8 32 pe,.ints .u8 32 ms,.ints .u8 32 mp,.ints .u8 32 th]
noncomputable def mtC:bu:=mk (P:=Tryz.prog) [S2.nj] []
theorem Au:ag Tryz.prog mtC:=ah _ au.nil _ _
def mtO (ha x:List Int):Bool:=aa true (aa (aa true (aa (aa (aa (aa true (decide (x.length=32)&&true)) (decide (x.length=32))) (decide (ha.length=32)&&true)) (decide (ha.length=32)))) (decide ([ha,x].flatten.length<274877900000)&&true))
section
variable {key ch ha os op pe ms mp th x:List Int} {n ak:Int} {has bg ex wh:Bool}
theorem afb (h1:ha.length=32) (h2:x.length=32):ai Tryz.prog 49 [.ptr 0 0 0,.sl 1 0 0 1 1 1 ex wh] [hb key has n ch ha bg ak os op pe ms mp th,.b [.sl 2 0 0 1 32 32 true true],.b [.ints .u8 32 x]] (.aT [])
  [hb key has n ch (S2.aq (ha++x)) bg ak os op pe ms mp th,.b [.sl 2 0 0 1 32 32 true true],.b [.ints .u8 32 x]]:=by
 have k:ai Tryz.prog 49 [.ptr 0 0 0,.sl 1 0 0 1 1 1 ex wh] [hb key has n ch ha bg ak os op pe ms mp th,.b [.sl 2 0 0 1 32 32 true true],.b [.ints .u8 32 x]] (.aT [])
   [hb key has n ch (S2.aq [ha,x].flatten) bg ak os op pe ms mp th,.b [.sl 2 0 0 1 32 32 true true],.b [.ints .u8 32 x]]:=
  aQ Au 60 Tryz.func49 3 (by simp) (p:=mtO ha x) (by kernel_rfl) (by
   unfold mtO
   rw [h1,h2,decide_eq_true (show [ha,x].flatten.length<274877900000 by simp;omega)];rfl) rfl rfl
 rw [Cp.vG] at k
 exact k
theorem afc (h1:ha.length=32) (h2:x.length<270000000000):ai Tryz.prog 49 [.ptr 0 0 0,.sl 1 0 0 1 1 1 ex wh] [hb key has n ch ha bg ak os op pe ms mp th,.b [.ro false .u8 x]] (.aT [])
  [hb key has n ch (S2.aq (ha++x)) bg ak os op pe ms mp th,.b [.ro false .u8 x]]:=by
 have k:ai Tryz.prog 49 [.ptr 0 0 0,.sl 1 0 0 1 1 1 ex wh] [hb key has n ch ha bg ak os op pe ms mp th,.b [.ro false .u8 x]] (.aT [])
   [hb key has n ch (S2.aq [ha,x].flatten) bg ak os op pe ms mp th,.b [.ro false .u8 x]]:=
  aQ Au 60 Tryz.func49 2 (by simp) (p:=Cp.hiX ha x) (by kernel_rfl) (Cp.nr h1 h2) rfl rfl
 rw [Cp.vG] at k
 exact k
theorem afd (hc:ch.length=32) (hm:x.length<274877890000):ai Tryz.prog 83 [.ptr 0 0 0,.ro false .u8 x] [hb key has n ch ha bg ak os op pe ms mp th] (.aT [])
  [hb (Cp.sk (Kd.bG ch x)) true 0 (Cp.lI (Kd.bG ch x)) ha bg ak os op pe ms mp th]:=
 aQ Cp.KK 60 Tryz.func83 1 (by simp) (p:=Cp.mcO ch x) (by kernel_rfl) (by
  unfold Cp.mcO
  rw [hc,Kd.eM,decide_eq_true hm]
  rfl) rfl rfl
end
section
variable (key ch ha os op pe ms mp th x:List Int) (n ak:Int) (bg:Bool)
theorem D0:(br Tryz.prog Cp.hiC 60 Tryz.f52 [.ptr 0 0 0,.ro false .u8 x] [hb key true n ch ha bg ak os op pe ms mp th]).map (fun x=>(x.1,x.2.1.take 1,x.2.2))=
  some (.aT [.ro true .u8 (Cp.uO key ha n x),.nl .nilIface],[hb key true (IntKind.i64.wrap (n+1)) ch (S2.aq [ha,Cp.uO key ha n x].flatten) bg ak os op pe ms mp th],Cp.hiO ha x (Cp.uO key ha n x) n):=by kernel_rfl
theorem D1:(br Tryz.prog Cp.shC 60 Tryz.f59 [.ptr 0 0 0,.ro false .u8 x] [hb key true n ch ha bg ak os op pe ms mp th]).map (fun x=>(x.1,x.2.1.take 1,x.2.2))=
  some (.aT [.ro true .u8 (Ae.cn key (Ae.aI n) x),.nl .nilIface],[hb key true (IntKind.i64.wrap (n+1)) ch (S2.aq [ha,x].flatten) bg ak os op pe ms mp th],Cp.shO key ha x n):=by kernel_rfl
end
section
variable {key ch ha os op pe ms mp th x:List Int} {n ak:Int} {bg:Bool}
theorem zk (h1:ha.length=32) (h0:0≤n) (hn:n<4294967295) (ht:x.length≤1048576):
  ai Tryz.prog 52 [.ptr 0 0 0,.ro false .u8 x] [hb key true n ch ha bg ak os op pe ms mp th] (.aT [.ro true .u8 (Cp.uO key ha n x),.nl .nilIface]) [hb key true (n+1) ch (S2.aq (ha++Cp.uO key ha n x)) bg ak os op pe ms mp th]:=by
 have e:=D0 key ch ha os op pe ms mp th x n ak bg
 rw [wrap_i64 _ (by omega) (by omega),Cp.vG] at e
 exact aQ Cp.KI 60 Tryz.func52 1 (by simp) e (by
  unfold Cp.hiO
  rw [h1,decide_eq_false (show ¬(n≥4294967295) by omega),decide_eq_true ht,Cp.nr h1 (by unfold Cp.uO;rw [Ae.fk];omega)]
  rfl) rfl rfl
theorem zl (h1:ha.length=32) (h0:0≤n) (hn:n<4294967295) (ht:x.length≤1048592) (ok:Ae.bJ key (Ae.aI n) ha x=true):
  ai Tryz.prog 59 [.ptr 0 0 0,.ro false .u8 x] [hb key true n ch ha bg ak os op pe ms mp th] (.aT [.ro true .u8 (Ae.cn key (Ae.aI n) x),.nl .nilIface]) [hb key true (n+1) ch (S2.aq (ha++x)) bg ak os op pe ms mp th]:=by
 have e:=D1 key ch ha os op pe ms mp th x n ak bg
 rw [wrap_i64 _ (by omega) (by omega),Cp.vG] at e
 exact aQ Cp.zj 60 Tryz.func59 1 (by simp) e (by
  unfold Cp.shO
  rw [h1,decide_eq_false (show ¬(n≥4294967295) by omega),decide_eq_true ht,ok,Cp.nr h1 (by omega)]
  rfl) rfl rfl
end
def afe (vs:List SV) (h:List Blk):List Nat:=match vs with
 | [.ptr b _ _,.sl c _ _ _ _ _ _ _]=>b::c::Bn.UN h c
 |_=>[]
noncomputable def oh:List SV→List Blk→Option (SV×List Blk×Bool)
 | [.ptr 0 0 0,.sl 1 0 0 1 1 1 _ _],[.b [.ints .u8 32 key,.bool has,.int .i64 n,.ints .u8 32 ch,.ints .u8 32 ha,.bool bg,.int .i64 ak,.ints .u8 32 os,.ints .u8 32 op,.ints .u8 32 pe,.ints .u8 32 ms,.ints .u8 32 mp,.ints .u8 32 th],.b [.sl 2 0 0 1 32 32 true true],.b [.ints .u8 32 x]]=>
  some (.aT [],[hb key has n ch (S2.aq (ha++x)) bg ak os op pe ms mp th,.b [.sl 2 0 0 1 32 32 true true],.b [.ints .u8 32 x]],decide (ha.length=32)&&decide (x.length=32))
 | [.ptr 0 0 0,.sl 1 0 0 1 1 1 _ _],[.b [.ints .u8 32 key,.bool has,.int .i64 n,.ints .u8 32 ch,.ints .u8 32 ha,.bool bg,.int .i64 ak,.ints .u8 32 os,.ints .u8 32 op,.ints .u8 32 pe,.ints .u8 32 ms,.ints .u8 32 mp,.ints .u8 32 th],.b [.ro false .u8 x]]=>
  some (.aT [],[hb key has n ch (S2.aq (ha++x)) bg ak os op pe ms mp th,.b [.ro false .u8 x]],decide (ha.length=32)&&decide (x.length<270000000000))
 |_,_=>none
noncomputable def fh:Entry Tryz.prog:=.mut 49 _ Tryz.func49 (by decide) rfl afe 0 oh fun vs h0 v h1 e=>by
 unfold oh at e
 split at e
 ·simp only [Option.some.injEq,Prod.mk.injEq,Bool.and_eq_true,decide_eq_true_eq] at e
  obtain ⟨rfl,rfl,h1,h2⟩:=e
  exact afb h1 h2
 ·simp only [Option.some.injEq,Prod.mk.injEq,Bool.and_eq_true,decide_eq_true_eq] at e
  obtain ⟨rfl,rfl,h1,h2⟩:=e
  exact afc h1 h2
 ·cases e
noncomputable def eP:List SV→List Blk→Option (SV×List Blk×Bool)
 | [.ptr 0 0 0,.ro false .u8 x],[.b [.ints .u8 32 key,.bool has,.int .i64 n,.ints .u8 32 ch,.ints .u8 32 ha,.bool bg,.int .i64 ak,.ints .u8 32 os,.ints .u8 32 op,.ints .u8 32 pe,.ints .u8 32 ms,.ints .u8 32 mp,.ints .u8 32 th]]=>
  some (.aT [],[hb (Cp.sk (Kd.bG ch x)) true 0 (Cp.lI (Kd.bG ch x)) ha bg ak os op pe ms mp th],decide (ch.length=32)&&decide (x.length<274877890000))
 |_,_=>none
noncomputable def fO:Entry Tryz.prog:=.mut 83 _ Tryz.func83 (by decide) rfl Cp.iC 0 eP fun vs h0 v h1 e=>by
 unfold eP at e
 split at e
 ·simp only [Option.some.injEq,Prod.mk.injEq,Bool.and_eq_true,decide_eq_true_eq] at e
  obtain ⟨rfl,rfl,h1,h2⟩:=e
  exact afd h1 h2
 ·cases e
noncomputable def tH:List SV→List Blk→Option (SV×List Blk×Bool)
 | [.ptr 0 0 0,.ro false .u8 x],[.b [.ints .u8 32 key,.bool true,.int .i64 n,.ints .u8 32 ch,.ints .u8 32 ha,.bool bg,.int .i64 ak,.ints .u8 32 os,.ints .u8 32 op,.ints .u8 32 pe,.ints .u8 32 ms,.ints .u8 32 mp,.ints .u8 32 th]]=>
  some (.aT [.ro true .u8 (Cp.uO key ha n x),.nl .nilIface],[hb key true (n+1) ch (S2.aq (ha++Cp.uO key ha n x)) bg ak os op pe ms mp th],decide (ha.length=32)&&decide (0≤n)&&decide (n<4294967295)&&decide (x.length≤1048576))
 |_,_=>none
noncomputable def FQ:Entry Tryz.prog:=.mut 52 _ Tryz.func52 (by decide) rfl Cp.iC 0 tH fun vs h0 v h1 e=>by
 unfold tH at e
 split at e
 ·simp only [Option.some.injEq,Prod.mk.injEq,Bool.and_eq_true,decide_eq_true_eq] at e
  obtain ⟨rfl,rfl,⟨⟨h1,h2⟩,h3⟩,h4⟩:=e
  exact zk h1 h2 h3 h4
 ·cases e
noncomputable def tI:List SV→List Blk→Option (SV×List Blk×Bool)
 | [.ptr 0 0 0,.ro false .u8 x],[.b [.ints .u8 32 key,.bool true,.int .i64 n,.ints .u8 32 ch,.ints .u8 32 ha,.bool bg,.int .i64 ak,.ints .u8 32 os,.ints .u8 32 op,.ints .u8 32 pe,.ints .u8 32 ms,.ints .u8 32 mp,.ints .u8 32 th]]=>
  some (.aT [.ro true .u8 (Ae.cn key (Ae.aI n) x),.nl .nilIface],[hb key true (n+1) ch (S2.aq (ha++x)) bg ak os op pe ms mp th],decide (ha.length=32)&&decide (0≤n)&&decide (n<4294967295)&&decide (x.length≤1048592)&&Ae.bJ key (Ae.aI n) ha x)
 |_,_=>none
noncomputable def FR:Entry Tryz.prog:=.mut 59 _ Tryz.func59 (by decide) rfl Cp.iC 0 tI fun vs h0 v h1 e=>by
 unfold tI at e
 split at e
 ·simp only [Option.some.injEq,Prod.mk.injEq,Bool.and_eq_true,decide_eq_true_eq] at e
  obtain ⟨rfl,rfl,⟨⟨⟨h1,h2⟩,h3⟩,h4⟩,h5⟩:=e
  exact zl h1 h2 h3 h4 h5
 ·cases e
end Go.Proofs.YtibfpjeeanppjaaGreat.No
end
section
namespace Go.Proofs.YtibfpjeeanppjaaGreat.No
open Go Go.Sy Sh La
noncomputable def SN:List (FuncId×Func):=[(82,Tryz.f82)]
theorem Av:au Tryz.prog SN:=au.cons Tryz.func82 (by decide) au.nil
noncomputable def mC:bu:=mk (P:=Tryz.prog) [vA false,fh,fO] SN fun _=>none
theorem Hj:ag Tryz.prog mC:=ah _ Av _ _
noncomputable def NC (ch k1 k2:List Int):List Int:=Cp.lI (Kd.bG (Cp.lI (Kd.bG ch k1)) k2)
noncomputable def Y5 (ch k1 k2:List Int):List Int:=Cp.sk (Kd.bG (Cp.lI (Kd.bG ch k1)) k2)
theorem Aw (ch k1 k2:List Int):(NC ch k1 k2).length=32:=(Cp.jA _).1
theorem SO (ch k1 k2:List Int):(Y5 ch k1 k2).length=32:=(Cp.jA _).2
noncomputable def PX (ch ha bN s1 p1 s2 p2:List Int):Bool:=
 aa (aa (aa (aa (aa (aa (aa true (aa true (decide (ha.length=32)&&decide (bN.length=32)))) (aa true (Re.aj s1&&Re.aj p1&&!gQ s1 p1)))
  (aa (aa true (aa (decide ((eu s1 p1).length=32)&&true) (decide ((eu s1 p1).length=32)))) (decide (ch.length=32)&&decide ((eu s1 p1).length<274877890000))))
  (true&&cL (IntKind.i64.wrap (0+1)) 2)) (aa true (Re.aj s2&&Re.aj p2&&!gQ s2 p2))) (aa true (decide (0+0+32≤32))))
  (aa (aa true (aa (decide ((eu s2 p2).length=32)&&true) (decide ((eu s2 p2).length=32)))) (decide ((Cp.lI (Kd.bG ch (eu s1 p1))).length=32)&&decide ((eu s2 p2).length<274877890000)))
noncomputable def gW (s1 p1 s2 p2:List Int):Bool:=Re.aj s1&&Re.aj p1&&!gQ s1 p1&&Re.aj s2&&Re.aj p2&&!gQ s2 p2
theorem rP {ch ha bN s1 p1 s2 p2:List Int} (h1:ha.length=32) (h2:bN.length=32) (h3:ch.length=32) (h:gW s1 p1 s2 p2=true):PX ch ha bN s1 p1 s2 p2=true:=by
 unfold gW at h
 simp only [Bool.and_eq_true,Bool.not_eq_true'] at h
 obtain ⟨⟨⟨⟨⟨a,b⟩,c⟩,d⟩,e⟩,f⟩:=h
 unfold PX
 rw [h1,h2,h3,a,b,c,d,e,f,ir,ir,(Cp.jA _).1]
 rfl
section
variable {key ch ha os op pe ms mp th bN:List Int} {n:Int} {has bg:Bool} (h1:ha.length=32) (h2:bN.length=32) (h3:ch.length=32)
include h1 h2 h3
theorem Y6 (h:gW ms pe os pe=true):ai Tryz.prog 51 [.ptr 0 0 0,.agg [.ints .u8 32 bN],.bool true] [hb key has n ch ha bg 0 os op pe ms mp th] (.nl .nilIface)
  [hb (Y5 ch (eu ms pe) (eu os pe)) true 0 (NC ch (eu ms pe) (eu os pe)) (S2.aq (ha++bN)) bg 0 os op pe ms mp th]:=
 aQ Hj 60 Tryz.func51 1 (by simp) (p:=PX ch ha bN ms pe os pe) (by kernel_rfl) (rP h1 h2 h3 h) rfl rfl
theorem Y7 (h:gW os th os pe=true):ai Tryz.prog 51 [.ptr 0 0 0,.agg [.ints .u8 32 bN],.bool false] [hb key has n ch ha bg 0 os op pe ms mp th] (.nl .nilIface)
  [hb (Y5 ch (eu os th) (eu os pe)) true 0 (NC ch (eu os th) (eu os pe)) (S2.aq (ha++bN)) bg 0 os op pe ms mp th]:=
 aQ Hj 60 Tryz.func51 1 (by simp) (p:=PX ch ha bN os th os pe) (by kernel_rfl) (rP h1 h2 h3 h) rfl rfl
theorem Y8 (h:gW ms th ms pe=true):ai Tryz.prog 51 [.ptr 0 0 0,.agg [.ints .u8 32 bN],.bool true] [hb key has n ch ha bg 1 os op pe ms mp th] (.nl .nilIface)
  [hb (Y5 ch (eu ms th) (eu ms pe)) true 0 (NC ch (eu ms th) (eu ms pe)) (S2.aq (ha++bN)) bg 1 os op pe ms mp th]:=
 aQ Hj 60 Tryz.func51 1 (by simp) (p:=PX ch ha bN ms th ms pe) (by kernel_rfl) (rP h1 h2 h3 h) rfl rfl
theorem Y9 (h:gW ms th os th=true):ai Tryz.prog 51 [.ptr 0 0 0,.agg [.ints .u8 32 bN],.bool false] [hb key has n ch ha bg 1 os op pe ms mp th] (.nl .nilIface)
  [hb (Y5 ch (eu ms th) (eu os th)) true 0 (NC ch (eu ms th) (eu os th)) (S2.aq (ha++bN)) bg 1 os op pe ms mp th]:=
 aQ Hj 60 Tryz.func51 1 (by simp) (p:=PX ch ha bN ms th os th) (by kernel_rfl) (rP h1 h2 h3 h) rfl rfl
end
def meets (w:Bool) (ak:Int) (os pe ms th:List Int):List Int×List Int×List Int×List Int:=
 bif ak==0 then (bif w then (ms,pe,os,pe) else (os,th,os,pe)) else (bif w then (ms,th,ms,pe) else (ms,th,os,th))
noncomputable def aff (w:Bool) (ak:Int) (bN ch ha:List Int) (bg:Bool) (os op pe ms mp th:List Int):Option (SV×List Blk×Bool):=
 let q:=meets w ak os pe ms th
 bif ak==0||ak==1 then some (.nl .nilIface,[hb (Y5 ch (eu q.1 q.2.1) (eu q.2.2.1 q.2.2.2)) true 0 (NC ch (eu q.1 q.2.1) (eu q.2.2.1 q.2.2.2)) (S2.aq (ha++bN)) bg ak os op pe ms mp th],
  decide (ha.length=32)&&decide (bN.length=32)&&decide (ch.length=32)&&gW q.1 q.2.1 q.2.2.1 q.2.2.2) else none
noncomputable def Br:List SV→List Blk→Option (SV×List Blk×Bool)
 | [.ptr 0 0 0,.agg [.ints .u8 32 bN],.bool w],[.b [.ints .u8 32 _,.bool _,.int .i64 _,.ints .u8 32 ch,.ints .u8 32 ha,.bool bg,.int .i64 ak,.ints .u8 32 os,.ints .u8 32 op,.ints .u8 32 pe,.ints .u8 32 ms,.ints .u8 32 mp,.ints .u8 32 th]]=>aff w ak bN ch ha bg os op pe ms mp th
 |_,_=>none
noncomputable def Bm:Entry Tryz.prog:=.mut 51 _ Tryz.func51 (by decide) rfl Cp.iC 0 Br fun vs h0 v h1 e=>by
 unfold Br at e
 split at e
 ·rename_i bN w key has n ch ha bg ak os op pe ms mp th
  unfold aff meets at e
  by_cases s0:ak=0
  ·subst s0
   cases w with
   |true=>
    simp only [beq_self_eq_true,cond_true,Bool.true_or,Option.some.injEq,Prod.mk.injEq,Bool.and_eq_true,decide_eq_true_eq] at e
    obtain ⟨rfl,rfl,⟨⟨a,b⟩,c⟩,d⟩:=e
    exact Y6 a b c d
   |false=>
    simp only [beq_self_eq_true,cond_true,cond_false,Bool.true_or,Option.some.injEq,Prod.mk.injEq,Bool.and_eq_true,decide_eq_true_eq] at e
    obtain ⟨rfl,rfl,⟨⟨a,b⟩,c⟩,d⟩:=e
    exact Y7 a b c d
  ·rw [show (ak==0)=false by simpa using s0] at e
   by_cases s1:ak=1
   ·subst s1
    cases w with
    |true=>
     simp only [beq_self_eq_true,cond_true,cond_false,Bool.or_true,Option.some.injEq,Prod.mk.injEq,Bool.and_eq_true,decide_eq_true_eq] at e
     obtain ⟨rfl,rfl,⟨⟨a,b⟩,c⟩,d⟩:=e
     exact Y8 a b c d
    |false=>
     simp only [beq_self_eq_true,cond_true,cond_false,Bool.or_true,Option.some.injEq,Prod.mk.injEq,Bool.and_eq_true,decide_eq_true_eq] at e
     obtain ⟨rfl,rfl,⟨⟨a,b⟩,c⟩,d⟩:=e
     exact Y9 a b c d
   ·rw [show (ak==1)=false by simpa using s1] at e
    cases e
 ·cases e
end Go.Proofs.YtibfpjeeanppjaaGreat.No
end
