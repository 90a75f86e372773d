/- This file holds the texts NqA, NqB, NqC, NqD, a section each. No conditions beyond those in the theorems. -/
import Derived.Test.YtibfpjeeanppjaaGreatYBxB
import Derived.Test.YtibfpjeeanppjaaGreatYCpB
import Derived.Test.YtibfpjeeanppjaaGreatYNoE
set_option linter.all false
set_option maxRecDepth 100000
section
namespace Go.Proofs.YtibfpjeeanppjaaGreat.Q2
open Go Go.Sy Sh
noncomputable def xsC:bu:=mk (P:=Tryz.prog) [KU] [] fun i=>if i=13||i=17 then some false else none
theorem ZA:ag Tryz.prog xsC:=ah _ au.nil _ _
def xsO (sec T U:List Int):Bool:=
 let a:=aa (aa (aa (aa (aa true (aa true (decide (sec.length=32)&&bE [1]&&decide ([(1:Int)].length<274877890000)))) true) (aa (decide (T.length=32)&&true) true)) (aa (decide (T.length=32)&&true) true)) (aa (decide (T.length=32)&&true) true)
 let b:=aa (aa a (aa (aa (aa true (decide (T.length=32)&&true)) (decide (T.length=32))) true)) (aa (aa (aa true (decide (T.length=32)&&true)) (decide (T.length=32))) true)
 let c:=aa (aa b (aa (aa true (aa (decide ((T++[2]).length=33)&&true) (decide ((T++[2]).length=33)))) (decide (sec.length=32)&&bE (T++[2])&&decide ((T++[2]).length<274877890000)))) true
 aa (aa c (aa (decide (U.length=32)&&true) true)) (aa (aa (aa (decide (U.length=32)&&true) (decide (T.length=32)&&true)) (decide (T.length=32))) true)
theorem N9 {sec T U:List Int} (h1:sec.length=32) (h2:T.length=32) (h3:U.length=32) (hT:bE T=true):xsO sec T U=true:=by
 have h4:(T++[(2:Int)]).length=33:=by rw [List.length_append,h2];rfl
 have h5:bE (T++[2])=true:=by
  unfold bE at hT ⊢
  rw [List.all_append,hT];rfl
 unfold xsO
 rw [h1,h2,h3,h4,h5,show bE [1]=true by decide,decide_eq_true (show [(1:Int)].length<274877890000 by decide)]
 rfl
theorem ZB (sec:List Int):(br Tryz.prog xsC 300 Tryz.f97 [.ro false .u8 sec,.nl (.slice none 0 0),.int .i64 64] []).map (fun x=>(x.1,x.2.1.take 5,x.2.2))=
  some (.aT [.sl 4 0 0 1 64 64 false false,.bool true],[.b [.ints .u8 1 [1]],.b [.ints .u8 1 [1]],.b [.ints .u8 32 (Kd.bG sec [1])],.b [.ints .u8 32 (Kd.bG sec [1])],.b [.ints .u8 64 (Kd.bG sec [1]++Kd.bG sec (Kd.bG sec [1]++[2]))]],
   xsO sec (Kd.bG sec [1]) (Kd.bG sec (Kd.bG sec [1]++[2]))):=by kernel_rfl
theorem C0 (sec:List Int):Kd.bp sec [] 64=Kd.bG sec [1]++Kd.bG sec (Kd.bG sec [1]++[2]):=by
 unfold Kd.bp
 rw [show (64-1)/32=1 from rfl,show 64-32*1=32 from rfl]
 have h1:Kd.xR sec [] (0+1)=Kd.bG sec [1]:=rfl
 have h2:Kd.xR sec [] (1+1)=Kd.bG sec (Kd.bG sec [1]++[2]):=by
  show Kd.bG sec [Kd.xR sec [] 1,[],[((1+1:Nat):Int)]].flatten=_
  rw [h1];rfl
 rw [h2,List.take_of_length_le (by rw [Kd.eM];omega)]
 show ([]++Kd.xR sec [] (0+1))++_=_
 rw [h1,List.nil_append]
theorem C3 {sec:List Int} (hs:sec.length=32):ai Tryz.prog 97 [.ro false .u8 sec,.nl (.slice none 0 0),.int .i64 64] [] (.aT [.ro true .u8 (Kd.bp sec [] 64),.bool true]) []:=by
 have hr:=ZB sec
 have ho:=N9 hs (Kd.eM sec [1]) (Kd.eM sec (Kd.bG sec [1]++[2])) (Bx.kg (Kd.zp _ _))
 have hl:(Kd.bp sec [] 64).length=64:=Kd.eO _ _ _
 rw [←C0] at hr
 generalize Kd.bp sec [] 64=E at hr hl ⊢
 generalize Kd.bG sec (Kd.bG sec [1]++[2])=U at hr ho
 generalize Kd.bG sec [1]=T at hr ho
 have k:=aQ ZA 300 Tryz.func97 5 (by simp) hr ho rfl rfl
 have k2:ai Tryz.prog 97 [.ro false .u8 sec,.nl (.slice none 0 0),.int .i64 64] [] (.aT [.sl 0 0 0 1 64 64 false false,.bool true]) [.b [.ints .u8 64 E]]:=ai.KE [4] k (by kernel_rfl)
 have k3:=ai.fz 0 0 (by simp) (by simp) k2 (u:=.aT [.ro true .u8 ((E.drop 0).take 64),.bool true]) (h2:=[]) (p:=aa (decide (E.length=64)) (decide (0+64≤64)&&true)) (by kernel_rfl) (by rw [hl];rfl)
 rw [List.drop_zero,List.take_of_length_le (by omega)] at k3
 exact k3
noncomputable def yR:List SV→Option (SV×List Blk×Bool)
 | [.ro false .u8 sec,.nl (.slice none 0 0),.int .i64 n]=>some (.aT [.ro true .u8 (aH 64 (Kd.bp sec [] 64)),.bool true],[],decide (n=64)&&decide (sec.length=32))
 |_=>none
noncomputable def Jm:Entry Tryz.prog:=.val 97 _ Tryz.func97 (by decide) rfl true 0 yR fun vs v new e=>by
 unfold yR at e
 split at e
 ·simp only [Option.some.injEq,Prod.mk.injEq,Bool.and_eq_true,decide_eq_true_eq] at e
  obtain ⟨rfl,rfl,rfl,h1⟩:=e
  rw [aG (Kd.eO _ _ _)]
  exact C3 h1
 ·cases e
end Go.Proofs.YtibfpjeeanppjaaGreat.Q2
end
section
namespace Go.Proofs.YtibfpjeeanppjaaGreat.Nq
open Go Go.Sy Sh La
noncomputable def twC:bu:=mk (P:=Tryz.prog) [Q2.Jm] []
theorem DW:ag Tryz.prog twC:=ah _ au.nil _ _
theorem DX (s:List Int):(br Tryz.prog twC 200 Tryz.f63 [.agg [.ints .u8 32 (aH 32 s)]] []).map (fun x=>(x.1,x.2.2))=
  some (.aT [.agg [.ints .u8 32 ((aH 64 (Kd.bp (aH 32 s) [] 64)).take 32)],.agg [.ints .u8 32 ((aH 64 (Kd.bp (aH 32 s) [] 64)).drop 32)]],true):=by kernel_rfl
theorem DY {s:List Int} (h:s.length=32):ai Tryz.prog 63 [.agg [.ints .u8 32 s]] [] (.aT [.agg [.ints .u8 32 (Cp.lI s)],.agg [.ints .u8 32 (Cp.sk s)]]) []:=by
 have k:=aF DW 200 Tryz.func63 (DX s) rfl rfl
 rw [aG h,aG (Kd.eO _ _ _)] at k
 exact k
noncomputable def KG:List SV→Option (SV×List Blk×Bool)
 | [.agg [.ints .u8 32 s]]=>some (.aT [.agg [.ints .u8 32 (Cp.lI s)],.agg [.ints .u8 32 (Cp.sk s)]],[],decide (s.length=32))
 |_=>none
noncomputable def Iq:Entry Tryz.prog:=.val 63 _ Tryz.func63 (by decide) rfl false 0 KG fun vs v new e=>by
 unfold KG at e
 split at e
 ·simp only [Option.some.injEq,Prod.mk.injEq,decide_eq_true_eq] at e
  obtain ⟨rfl,rfl,h⟩:=e
  exact DY h
 ·cases e
abbrev sv (ch ha:List Int) (has:Bool) (key:List Int) (n:Int):SV:=.agg [.ints .u8 32 ch,.ints .u8 32 ha,.bool has,.ints .u8 32 key,.int .i64 n]
noncomputable def mtC:bu:=mk (P:=Tryz.prog) [Bx.zb] []
theorem Au:ag Tryz.prog mtC:=ah _ au.nil _ _
def mtO (ha text:List Int):Bool:=
 aa (aa (aa true (decide (ha.length=32)&&true)) (aa (aa (aa true (decide (ha.length=0+32)&&true)) (decide (ha.length=0+32))) (decide (0+32+text.length≤2^38))))
  (aa (aa (decide ((ha++text).length=0+32+text.length)&&(decide (0+32+text.length≤0+32+text.length)&&true)) (decide ((ha++text).length=0+32+text.length))) (bE (ha++text)&&decide ((ha++text).length<274877900000)))
section
variable {ch ha key text:List Int} {has:Bool} {n:Int}
theorem Fa (h1:ha.length=32) (ub:bE ha=true) (ut:bE text=true) (hl:text.length<270000000000):ai Tryz.prog 55 [sv ch ha has key n,.ro false .u8 text] [] (sv ch (S2.aq (ha++text)) has key n) []:=
 aF Au 60 Tryz.func55 (p:=mtO ha text) (by kernel_rfl) (by
  have hu:bE (ha++text)=true:=Bx.uM ub ut
  have hn:(ha++text).length=32+text.length:=by rw [List.length_append,h1]
  unfold mtO
  rw [hu,hn,h1,decide_eq_true (show 0+32+text.length≤2^38 by omega),decide_eq_true (show 32+text.length=0+32+text.length by omega),decide_eq_true (Nat.le_refl _),decide_eq_true (show 32+text.length<274877900000 by omega)]
  rfl) rfl
end
noncomputable def oh:List SV→Option (SV×List Blk×Bool)
 | [.agg [.ints .u8 32 ch,.ints .u8 32 ha,.bool has,.ints .u8 32 key,.int .i64 n],.ro false .u8 text]=>some (sv ch (S2.aq (ha++text)) has key n,[],decide (ha.length=32)&&bE ha&&bE text&&decide (text.length<270000000000))
 |_=>none
noncomputable def fh:Entry Tryz.prog:=.val 55 _ Tryz.func55 (by decide) rfl true 0 oh fun vs v new e=>by
 unfold oh at e
 split at e
 ·simp only [Option.some.injEq,Prod.mk.injEq,Bool.and_eq_true,decide_eq_true_eq] at e
  obtain ⟨rfl,rfl,⟨⟨h1,h2⟩,h3⟩,h4⟩:=e
  exact Fa h1 h2 h3 h4
 ·cases e
noncomputable def msC:bu:=mk (P:=Tryz.prog) [Q2.KU,Iq] []
theorem KH:ag Tryz.prog msC:=ah _ au.nil _ _
noncomputable def msO (ch x:List Int):Bool:=aa (aa true (aa (aa (decide (ch.length=32)&&true) (decide (ch.length=32))) (decide (ch.length=32)&&bE x&&decide (x.length<274877890000)))) (aa true (decide ((Kd.bG ch x).length=32)))
noncomputable def eP:List SV→Option (SV×List Blk×Bool)
 | [.agg [.ints .u8 32 ch,.ints .u8 32 ha,.bool _,.ints .u8 32 _,.int .i64 _],.ro false .u8 x]=>some (sv (Cp.lI (Kd.bG ch x)) ha true (Cp.sk (Kd.bG ch x)) 0,[],decide (ch.length=32)&&bE x&&decide (x.length<274877890000))
 |_=>none
noncomputable def fO:Entry Tryz.prog:=.val 92 _ Tryz.func92 (by decide) rfl true 0 eP fun vs v new e=>by
 unfold eP at e
 split at e
 ·rename_i ch ha has key n x
  simp only [Option.some.injEq,Prod.mk.injEq,Bool.and_eq_true,decide_eq_true_eq] at e
  obtain ⟨rfl,rfl,⟨h1,h2⟩,h3⟩:=e
  exact aF KH 60 Tryz.func92 (p:=msO ch x) (by kernel_rfl) (by unfold msO;rw [h1,h2,Kd.eM,decide_eq_true h3];rfl) rfl
 ·cases e
noncomputable def beC:bu:=mk (P:=Tryz.prog) [Bx.zb] []
theorem DZ:ag Tryz.prog beC:=ah _ au.nil _ _
def nmL:List Int:=[78,111,105,115,101,95,75,75,95,50,53,53,49,57,95,67,104,97,67,104,97,80,111,108,121,95,83,72,65,50,53,54]
noncomputable def nA:List SV→Option (SV×List Blk×Bool)
 | [.str l]=>some (sv (S2.aq nmL) (S2.aq nmL) false Cp.iB 0,[],decide (l=nmL))
 |_=>none
noncomputable def vH:Entry Tryz.prog:=.val 58 _ Tryz.func58 (by decide) rfl false 0 nA fun vs v new e=>by
 unfold nA at e
 split at e
 ·simp only [Option.some.injEq,Prod.mk.injEq,decide_eq_true_eq] at e
  obtain ⟨rfl,rfl,rfl⟩:=e
  exact aF DZ 60 Tryz.func58 (p:=true) (by kernel_rfl) rfl rfl
 ·cases e
noncomputable def hC:bu:=mk (P:=Tryz.prog) [R4.ZC,R4.zd] []
theorem ug:ag Tryz.prog hC:=ah _ au.nil _ _
noncomputable def hO (key ctx x:List Int):Bool:=aa true (aa true (decide (key.length=32)&&R4.dK key&&true&&true&&R4.dK ctx&&decide (ctx.length≤1048576)&&decide (x.length≤1048576)))
noncomputable def tH:List SV→Option (SV×List Blk×Bool)
 | [.agg [.ints .u8 32 ch,.ints .u8 32 ha,.bool true,.ints .u8 32 key,.int .i64 n],.ro false .u8 ctx,.ro false .u8 x]=>some (.aT [.ro true .u8 (Ae.fu key (Ae.aI 0) ctx x),sv ch ha true key 1,.int .i64 0],[],decide (n=0)&&decide (key.length=32)&&R4.dK key&&R4.dK ctx&&decide (ctx.length≤1048576)&&decide (x.length≤1048576))
 |_=>none
noncomputable def FQ:Entry Tryz.prog:=.val 95 _ Tryz.func95 (by decide) rfl true 0 tH fun vs v new e=>by
 unfold tH at e
 split at e
 ·rename_i ch ha key n ctx x
  simp only [Option.some.injEq,Prod.mk.injEq,Bool.and_eq_true,decide_eq_true_eq] at e
  obtain ⟨rfl,rfl,⟨⟨⟨⟨rfl,h1⟩,h2⟩,h3⟩,h4⟩,h5⟩:=e
  exact aF ug 60 Tryz.func95 (p:=hO key ctx x) (by kernel_rfl) (by unfold hO;rw [h1,h2,h3,decide_eq_true h4,decide_eq_true h5];rfl) rfl
 ·cases e
noncomputable def sC (b:Bool):bu:=mk (P:=Tryz.prog) [R4.Ks b,R4.zd] []
theorem VX (b:Bool):ag Tryz.prog (sC b):=ah _ au.nil _ _
noncomputable def sO (key ctx x:List Int) (o:Bool):Bool:=aa true (aa true (decide (key.length=32)&&R4.dK key&&true&&true&&R4.dK ctx&&R4.dK x&&decide (ctx.length≤1048592)&&decide (x.length≤1048592)&&o))
noncomputable def tI (u:Bool):List SV→Option (SV×List Blk×Bool)
 | [.agg [.ints .u8 32 ch,.ints .u8 32 ha,.bool true,.ints .u8 32 key,.int .i64 n],.ro false .u8 ctx,.ro false .u8 x]=>match u with
  |true=>some (.aT [.ro true .u8 (Ae.cn key (Ae.aI 0) x),sv ch ha true key 1,.int .i64 0],[],decide (n=0)&&decide (key.length=32)&&R4.dK key&&R4.dK ctx&&R4.dK x&&decide (ctx.length≤1048592)&&decide (x.length≤1048592)&&Ae.bJ key (Ae.aI 0) ctx x)
  |false=>some (.aT [.nl (.slice none 0 0),sv ch ha true key 0,.int .i64 2],[],decide (n=0)&&decide (key.length=32)&&R4.dK key&&R4.dK ctx&&R4.dK x&&decide (ctx.length≤1048592)&&decide (x.length≤1048592)&&!Ae.bJ key (Ae.aI 0) ctx x)
 |_=>none
noncomputable def FR (u:Bool):Entry Tryz.prog:=.val 93 _ Tryz.func93 (by decide) rfl true 0 (tI u) fun vs v new e=>by
 unfold tI at e
 split at e
 ·rename_i ch ha key n ctx x
  split at e
  ·simp only [Option.some.injEq,Prod.mk.injEq,Bool.and_eq_true,decide_eq_true_eq] at e
   obtain ⟨rfl,rfl,⟨⟨⟨⟨⟨⟨rfl,h1⟩,h2⟩,h3⟩,h4⟩,h5⟩,h6⟩,h7⟩:=e
   exact aF (VX true) 60 Tryz.func93 (p:=sO key ctx x (Ae.bJ key (Ae.aI 0) ctx x)) (by kernel_rfl) (by unfold sO;rw [h1,h2,h3,h4,h7,decide_eq_true h5,decide_eq_true h6];rfl) rfl
  ·simp only [Option.some.injEq,Prod.mk.injEq,Bool.and_eq_true,decide_eq_true_eq] at e
   obtain ⟨rfl,rfl,⟨⟨⟨⟨⟨⟨rfl,h1⟩,h2⟩,h3⟩,h4⟩,h5⟩,h6⟩,h7⟩:=e
   exact aF (VX false) 60 Tryz.func93 (p:=sO key ctx x (!Ae.bJ key (Ae.aI 0) ctx x)) (by kernel_rfl) (by unfold sO;rw [h1,h2,h3,h4,h7,decide_eq_true h5,decide_eq_true h6];rfl) rfl
 ·cases e
end Go.Proofs.YtibfpjeeanppjaaGreat.Nq
end
section
namespace Go.Proofs.YtibfpjeeanppjaaGreat.Nq
open Go Go.Sy Sh La
open No (tc kF)
noncomputable def hmC:bu:=mk (P:=Tryz.prog) [FQ,fh] []
theorem ZD:ag Tryz.prog hmC:=ah _ au.nil _ _
noncomputable def ya (b:Bool):bu:=mk (P:=Tryz.prog) [FR b,fh] []
theorem dH (b:Bool):ag Tryz.prog (ya b):=ah _ au.nil _ _
noncomputable def hmO (ha key x:List Int):Bool:=
 aa (aa true (aa (aa true (aa (decide (ha.length=32)&&true) (decide (ha.length=32)))) (true&&decide (key.length=32)&&R4.dK key&&R4.dK ha&&decide (ha.length≤1048576)&&decide (x.length≤1048576))))
  (aa true (decide (ha.length=32)&&bE ha&&bE (Ae.fu key (Ae.aI 0) ha x)&&decide ((Ae.fu key (Ae.aI 0) ha x).length<270000000000)))
noncomputable def WW (ha key x:List Int) (o:Bool):Bool:=
 aa true (aa (aa true (aa (decide (ha.length=32)&&true) (decide (ha.length=32)))) (true&&decide (key.length=32)&&R4.dK key&&R4.dK ha&&R4.dK x&&decide (ha.length≤1048592)&&decide (x.length≤1048592)&&o))
theorem CU (key af ctx x:List Int):bE (Ae.fu key af ctx x)=true:=R4.aY.2 ((R4.E6 1).app (R4.Oa _ _ _ _))
noncomputable def C4:List SV→Option (SV×List Blk×Bool)
 | [.agg [.ints .u8 32 ch,.ints .u8 32 ha,.bool true,.ints .u8 32 key,.int .i64 n],.ro false .u8 x]=>some (.aT [.ro true .u8 (Cp.uO key ha 0 x),sv ch (S2.aq (ha++Cp.uO key ha 0 x)) true key 1,.int .i64 0],[],decide (n=0)&&decide (ha.length=32)&&decide (key.length=32)&&bE key&&bE ha&&decide (x.length≤1048576))
 |_=>none
noncomputable def Ob:Entry Tryz.prog:=.val 60 _ Tryz.func60 (by decide) rfl true 0 C4 fun vs v new e=>by
 unfold C4 at e
 split at e
 ·rename_i ch ha key n x
  simp only [Option.some.injEq,Prod.mk.injEq,Bool.and_eq_true,decide_eq_true_eq] at e
  obtain ⟨rfl,rfl,⟨⟨⟨⟨rfl,h1⟩,h2⟩,h3⟩,h4⟩,h5⟩:=e
  exact aF ZD 60 Tryz.func60 (p:=hmO ha key x) (by kernel_rfl) (by
   have e1:R4.dK key=true:=h3
   have e2:R4.dK ha=true:=h4
   unfold hmO
   rw [h1,h2,e1,e2,h4,CU,Ae.fk,decide_eq_true h5,decide_eq_true (show x.length+16<270000000000 by omega)];rfl) rfl
 ·cases e
noncomputable def C5 (u:Bool):List SV→Option (SV×List Blk×Bool)
 | [.agg [.ints .u8 32 ch,.ints .u8 32 ha,.bool true,.ints .u8 32 key,.int .i64 n],.ro false .u8 x]=>match u with
  |true=>some (.aT [.ro true .u8 (Ae.cn key (Ae.aI 0) x),sv ch (S2.aq (ha++x)) true key 1,.int .i64 0],[],decide (n=0)&&decide (ha.length=32)&&decide (key.length=32)&&bE key&&bE ha&&bE x&&decide (x.length≤1048592)&&Ae.bJ key (Ae.aI 0) ha x)
  |false=>some (.aT [.nl (.slice none 0 0),sv ch ha true key 0,.int .i64 2],[],decide (n=0)&&decide (ha.length=32)&&decide (key.length=32)&&bE key&&bE ha&&bE x&&decide (x.length≤1048592)&&!Ae.bJ key (Ae.aI 0) ha x)
 |_=>none
noncomputable def Oc (u:Bool):Entry Tryz.prog:=.val 57 _ Tryz.func57 (by decide) rfl true 0 (C5 u) fun vs v new e=>by
 unfold C5 at e
 split at e
 ·rename_i ch ha key n x
  split at e
  ·simp only [Option.some.injEq,Prod.mk.injEq,Bool.and_eq_true,decide_eq_true_eq] at e
   obtain ⟨rfl,rfl,⟨⟨⟨⟨⟨⟨rfl,h1⟩,h2⟩,h3⟩,h4⟩,h5⟩,h6⟩,h7⟩:=e
   exact aF (dH true) 60 Tryz.func57 (p:=aa (WW ha key x (Ae.bJ key (Ae.aI 0) ha x)) (aa true (decide (ha.length=32)&&bE ha&&bE x&&decide (x.length<270000000000)))) (by kernel_rfl) (by
    have e1:R4.dK key=true:=h3
    have e2:R4.dK ha=true:=h4
    have e3:R4.dK x=true:=h5
    unfold WW
    rw [h1,h2,e1,e2,e3,h4,h5,h7,decide_eq_true h6,decide_eq_true (show x.length<270000000000 by omega)];rfl) rfl
  ·simp only [Option.some.injEq,Prod.mk.injEq,Bool.and_eq_true,decide_eq_true_eq] at e
   obtain ⟨rfl,rfl,⟨⟨⟨⟨⟨⟨rfl,h1⟩,h2⟩,h3⟩,h4⟩,h5⟩,h6⟩,h7⟩:=e
   exact aF (dH false) 60 Tryz.func57 (p:=WW ha key x (!Ae.bJ key (Ae.aI 0) ha x)) (by kernel_rfl) (by
    have e1:R4.dK key=true:=h3
    have e2:R4.dK ha=true:=h4
    have e3:R4.dK x=true:=h5
    unfold WW
    rw [h1,h2,e1,e2,e3,h7,decide_eq_true h6];rfl) rfl
 ·cases e
abbrev hv (ch ha:List Int) (has:Bool) (key:List Int) (n:Int) (bg:Bool) (ak:Int) (os op pe mi th:List Int):SV:=.agg [.ints .u8 32 ch,.ints .u8 32 ha,.bool has,.ints .u8 32 key,.int .i64 n,.bool bg,.int .i64 ak,.ints .u8 32 os,.ints .u8 32 op,.ints .u8 32 pe,.ints .u8 32 mi,.ints .u8 32 th]
noncomputable def nwC:bu:=mk (P:=Tryz.prog) [vH,fh] []
theorem AI:ag Tryz.prog nwC:=ah _ au.nil _ _
noncomputable def nwP (x y:List Int):Bool:=aa (aa true (aa (decide (y.length=32)&&true) (decide (y.length=32)))) (decide ((S2.aq x).length=32)&&bE (S2.aq x)&&bE y&&decide (y.length<270000000000))
noncomputable def nwO (aV a b:List Int):Bool:=
 aa (aa (aa true (aa true (decide (kF.length=32)&&bE kF&&bE aV&&decide (aV.length<270000000000)))) (nwP (kF++aV) a)) (nwP (S2.aq (kF++aV)++a) b)
theorem jM (l:List Int):bE (S2.aq l)=true:=Bx.kg (S2.kI _)
theorem C6 {x y:List Int} (h:Re.aj y=true):nwP x y=true:=by
 unfold nwP
 rw [(Re.bI.1 h).1,S2.bn,jM,Bx.lN h];rfl
theorem C7 {aV a b:List Int} (up:bE aV=true) (lp:aV.length<270000000000) (ha:Re.aj a=true) (hb:Re.aj b=true):nwO aV a b=true:=by
 have e1:kF.length=32:=S2.bn _
 have e2:bE kF=true:=jM _
 unfold nwO
 rw [C6 ha,C6 hb,e1,e2,up,decide_eq_true lp];rfl
noncomputable def newF:List SV→Option (SV×List Blk×Bool)
 | [.bool bg,.agg [.ints .u8 32 os,.ints .u8 32 op],.agg [.ints .u8 32 pe],.ro false .u8 aV]=>some (hv kF (tc bg op pe aV) false Cp.iB 0 bg 0 os op pe Cp.iB Cp.iB,[],bE aV&&decide (aV.length<270000000000)&&Re.aj op&&Re.aj pe)
 |_=>none
noncomputable def Bt:Entry Tryz.prog:=.val 27 _ Tryz.func27 (by decide) rfl true 0 newF fun vs v new e=>by
 unfold newF at e
 split at e
 ·rename_i bg os op pe aV
  simp only [Option.some.injEq,Prod.mk.injEq,Bool.and_eq_true,decide_eq_true_eq] at e
  obtain ⟨rfl,rfl,⟨⟨h1,h2⟩,h3⟩,h4⟩:=e
  cases bg with
  |true=>exact aF AI 60 Tryz.func27 (p:=nwO aV op pe) (by kernel_rfl) (C7 h1 h2 h3 h4) rfl
  |false=>exact aF AI 60 Tryz.func27 (p:=nwO aV pe op) (by kernel_rfl) (C7 h1 h2 h4 h3) rfl
 ·cases e
end Go.Proofs.YtibfpjeeanppjaaGreat.Nq
end
section
namespace Go.Proofs.YtibfpjeeanppjaaGreat.Nq
open Go Go.Sy Sh La
noncomputable def tnC:bu:=mk (P:=Tryz.prog) [] []
theorem fG:ag Tryz.prog tnC:=ah _ au.nil _ _
noncomputable def CO:List SV→Option (SV×List Blk×Bool)
 | [.agg [.ints .u8 32 _,.ints .u8 32 _,.bool _,.ints .u8 32 _,.int .i64 _,.bool bg,.int .i64 ak,.ints .u8 32 _,.ints .u8 32 _,.ints .u8 32 _,.ints .u8 32 _,.ints .u8 32 _]]=>some (.bool (No.cr bg ak),[],No.cN ak)
 |_=>none
noncomputable def om:Entry Tryz.prog:=.val 33 _ Tryz.func33 (by decide) rfl false 0 CO fun vs v new e=>by
 unfold CO at e
 split at e
 ·rename_i bg ak _ _ _ _ _
  simp only [Option.some.injEq,Prod.mk.injEq] at e
  obtain ⟨rfl,rfl,h⟩:=e
  rcases No.mG h with rfl|rfl|rfl<;>cases bg
  ·exact aF fG 60 Tryz.func33 (p:=true) (by kernel_rfl) rfl rfl
  ·exact aF fG 60 Tryz.func33 (p:=true) (by kernel_rfl) rfl rfl
  ·exact aF fG 60 Tryz.func33 (p:=true) (by kernel_rfl) rfl rfl
  ·exact aF fG 60 Tryz.func33 (p:=true) (by kernel_rfl) rfl rfl
  ·exact aF fG 60 Tryz.func33 (p:=true) (by kernel_rfl) rfl rfl
  ·exact aF fG 60 Tryz.func33 (p:=true) (by kernel_rfl) rfl rfl
 ·cases e
noncomputable def meC:bu:=mk (P:=Tryz.prog) [zc false,fO] []
theorem Od:ag Tryz.prog meC:=ah _ au.nil _ _
noncomputable def meO (ch s p:List Int):Bool:=
 aa (aa true (aa true (Re.aj s&&Re.aj p&&!gQ s p))) (aa (aa true (aa (decide ((eu s p).length=32)&&true) (decide ((eu s p).length=32)))) (decide (ch.length=32)&&bE (eu s p)&&decide ((eu s p).length<274877890000)))
noncomputable def VY:List SV→Option (SV×List Blk×Bool)
 | [.agg [.ints .u8 32 ch,.ints .u8 32 ha,.bool _,.ints .u8 32 _,.int .i64 _,.bool bg,.int .i64 ak,.ints .u8 32 os,.ints .u8 32 op,.ints .u8 32 pe,.ints .u8 32 mi,.ints .u8 32 th],.agg [.ints .u8 32 s],.agg [.ints .u8 32 p]]=>
  some (.aT [hv (Cp.lI (Kd.bG ch (eu s p))) ha true (Cp.sk (Kd.bG ch (eu s p))) 0 bg ak os op pe mi th,.int .i64 0],[],Re.aj s&&Re.aj p&&!gQ s p&&decide (ch.length=32))
 |_=>none
noncomputable def VZ:Entry Tryz.prog:=.val 56 _ Tryz.func56 (by decide) rfl false 0 VY fun vs v new e=>by
 unfold VY at e
 split at e
 ·rename_i ch ha has key n bg ak os op pe mi th s p
  simp only [Option.some.injEq,Prod.mk.injEq,Bool.and_eq_true,decide_eq_true_eq,Bool.not_eq_true'] at e
  obtain ⟨rfl,rfl,⟨⟨h1,h2⟩,h3⟩,h4⟩:=e
  exact aF Od 60 Tryz.func56 (p:=meO ch s p) (by kernel_rfl) (by
   unfold meO
   rw [h1,h2,h3,h4,ir,Bx.lN (Gk s p)];rfl) rfl
 ·cases e
end Go.Proofs.YtibfpjeeanppjaaGreat.Nq
end
