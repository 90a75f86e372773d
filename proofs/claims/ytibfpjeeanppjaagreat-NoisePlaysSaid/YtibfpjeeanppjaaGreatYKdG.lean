/- This file holds the texts KdE, KdF, KdG, a section each. No conditions beyond those in the theorems. -/
import Derived.Test.YtibfpjeeanppjaaGreatYS2F
import Derived.Test.YtibfpjeeanppjaaGreatYKdD
set_option linter.all false
set_option maxRecDepth 100000
section
namespace Go.Proofs.YtibfpjeeanppjaaGreat.Q2
open Go Go.Sy Sh
noncomputable def tqC:bu:=mk (P:=Tryz.prog) [KS] [] fun i=>if i=16 then some false else none
theorem KT:ag Tryz.prog tqC:=ah _ au.nil _ _
def pU (key:List Int) (c:Int):List Int:=(List.range 32).map (fun i=>cm .u8 (key.getD i 0) c)++List.replicate 32 (cm .u8 0 c)
def qH (c:Int):List Int:=List.replicate 64 (cm .u8 0 c)
noncomputable def tqW (k36 k5c text:List Int):List Int:=g7 (k5c++g7 (k36++text))
noncomputable def tqO (a b c:List Int):Bool:=
 aa (aa (aa (aa true (aa true (decide (64+c.length≤2^38)))) (aa (aa (decide ((a++c).length=64+c.length)&&(decide (64+c.length≤64+c.length)&&true)) (decide ((a++c).length=64+c.length))) (decide ((a++c).length<274877900000)))) (decide ((g7 (a++c)).length=32)&&true))
  (aa (aa (decide ((b++g7 (a++c)).length=64+32)&&true) (decide ((b++g7 (a++c)).length=64+32))) (decide ((b++g7 (a++c)).length<274877900000)))
theorem D4 (xs:List Int):(g7 xs).length=32:=by rw [g7,aD];simp [S2.D5]
theorem qI (key:List Int) (c:Int):(pU key c).length=64:=by simp [pU]
theorem BD {a b c:List Int} (ha:a.length=64) (hb:b.length=64) (hc:c.length<274877890000):tqO a b c=true:=by
 unfold tqO
 rw [List.length_append,List.length_append,D4,ha,hb,decide_eq_true (show 64+c.length≤2^38 by omega),decide_eq_true (rfl:64+c.length=64+c.length),decide_eq_true (show 64+c.length≤64+c.length by omega),decide_eq_true (show 64+c.length<274877900000 by omega)]
 rfl
set_option maxHeartbeats 0 in
theorem Xv (key text:List Int):(br Tryz.prog tqC 300 Tryz.f80 [.ro false .u8 (aH 32 key),.ro false .u8 text] []).map (fun x=>(x.1,x.2.2))=some (.agg [.ints .u8 32 (tqW (pU key 54) (pU key 92) text)],tqO (pU key 54) (pU key 92) text):=by kernel_rfl
end Go.Proofs.YtibfpjeeanppjaaGreat.Q2
end
section
namespace Go.Proofs.YtibfpjeeanppjaaGreat.Q2
open Go Go.Sy Sh
theorem F0 (a b:Int):0≤cm .u8 a b∧cm .u8 a b<256:=by
 unfold cm jy
 rw [wrap_u8]
 omega
theorem Xw (key:List Int) (c:Int):Kd.UX (Kd.FT (Kd.pdK (aH 32 key))) c=pU (aH 32 key) c:=by kernel_rfl
theorem F1 {key:List Int} (h:key.length=32) (c:Int):Kd.jg key c=pU key c:=by
 have:=Xw key c
 rw [aG h] at this
 rw [Kd.jg,aD,this]
theorem F2 (key:List Int) (c:Int):By (pU key c):=by
 intro x hx
 simp only [pU,List.mem_append,List.mem_map,List.mem_replicate] at hx
 rcases hx with ⟨i,_,rfl⟩|⟨_,rfl⟩<;>exact F0 _ _
theorem By.app {a b:List Int} (ha:By a) (hb:By b):By (a++b):=fun x hx=>(List.mem_append.1 hx).elim (ha x) (hb x)
theorem ac7 {key text:List Int} (h:key.length=32) (ht:By text) (hl:text.length<274877890000):tqW (pU key 54) (pU key 92) text=Kd.bG key text:=by
 have h1:By (pU key 54++text):=(F2 _ _).app ht
 have e1:=kH h1 (by rw [List.length_append,qI];omega)
 have h2:By (pU key 92++S2.aq (pU key 54++text)):=(F2 _ _).app (S2.kI _)
 have e2:=kH h2 (by rw [List.length_append,qI,S2.bn];omega)
 unfold tqW
 rw [Kd.bG,aD,F1 h,F1 h,e2,e1]
theorem Kr {l:List Int} (h:bE l=true):By l:=fun x hx=>by
 have:=List.all_eq_true.1 h x hx
 simpa using this
theorem Q3 {key text:List Int} (h:key.length=32) (ht:bE text=true) (hl:text.length<274877890000):ai Tryz.prog 80 [.ro false .u8 key,.ro false .u8 text] [] (.agg [.ints .u8 32 (Kd.bG key text)]) []:=by
 have k:=aF KT 300 Tryz.func80 (Xv key text) (BD (qI _ _) (qI _ _) hl) rfl
 rw [aG h,ac7 h (Kr ht) hl] at k
 exact k
noncomputable def U3:List SV→Option (SV×List Blk×Bool)
 | [.ro false .u8 key,.ro false .u8 text]=>some (.agg [.ints .u8 32 (Kd.bG key text)],[],decide (key.length=32)&&bE text&&decide (text.length<274877890000))
 |_=>none
noncomputable def KU:Entry Tryz.prog:=.val 80 _ Tryz.func80 (by decide) rfl true 0 U3 fun vs v new e=>by
 unfold U3 at e
 split at e
 ·simp only [Option.some.injEq,Prod.mk.injEq,Bool.and_eq_true,decide_eq_true_eq] at e
  obtain ⟨rfl,rfl,⟨h1,h2⟩,h3⟩:=e
  exact Q3 h1 h2 h3
 ·cases e
noncomputable def xqC:bu:=mk (P:=Tryz.prog) [KU] [] fun i=>if i=13||i=17 then some false else none
theorem Xx:ag Tryz.prog xqC:=ah _ au.nil _ _
def xqO (sec info T:List Int):Bool:=
 aa (aa (aa (aa (aa (aa true (aa true (decide (0+0+info.length≤2^38)))) (aa (aa (aa (aa (true&&true) (decide (info.length=0+0+info.length)&&(decide (0+0+info.length≤0+0+info.length)&&true))) (decide (info.length=0+0+info.length))) true) (decide (0+0+info.length+1≤2^38))))
  (aa (aa true (aa (decide ((BC info).length=0+0+info.length+1)&&(decide (0+0+info.length+1≤0+0+info.length+1)&&true)) (decide ((BC info).length=0+0+info.length+1)))) (decide (sec.length=32)&&bE (BC info)&&decide ((BC info).length<274877890000))))
  (aa true true)) (aa (decide (T.length=32)&&true) true)) (aa (decide (T.length=0+32)&&true) true)
theorem KV {sec info T:List Int} (hs:sec.length=32) (hi:bE info=true) (hl:info.length<274877000000) (hT:T.length=32):xqO sec info T=true:=by
 have hm:(BC info).length=info.length+1:=by simp [BC]
 have hb:bE (BC info)=true:=by
  unfold BC bE
  rw [List.all_append]
  have h:info.all (fun n=>decide (0≤n)&&decide (n<256))=true:=hi
  rw [h];rfl
 unfold xqO
 rw [hm,hb,hs,hT,decide_eq_true (show 0+0+info.length≤2^38 by omega),decide_eq_true (show 0+0+info.length+1≤2^38 by omega),decide_eq_true (show info.length=0+0+info.length by omega),decide_eq_true (show 0+0+info.length≤0+0+info.length by omega),decide_eq_true (show info.length+1=0+0+info.length+1 by omega),
  decide_eq_true (show 0+0+info.length+1≤0+0+info.length+1 by omega),decide_eq_true (show info.length+1<274877890000 by omega)]
 rfl
theorem Xy (sec info:List Int):(br Tryz.prog xqC 300 Tryz.f97 [.ro false .u8 sec,.ro false .u8 info,.int .i64 32] []).map (fun x=>(x.1,x.2.1.take 5,x.2.2))=
  some (.aT [.sl 4 0 0 1 32 32 false false,.bool true],[.b [.ints .u8 (0+0+info.length+1) (BC info)],.b [.ints .u8 1 [1]],.b [.ints .u8 32 (Kd.bG sec (BC info))],.b [.ints .u8 32 (Kd.bG sec (BC info))],.b [.ints .u8 32 (Kd.bG sec (BC info))]],xqO sec info (Kd.bG sec (BC info))):=by kernel_rfl
theorem D6 {sec info:List Int} (hs:sec.length=32) (hi:bE info=true) (hl:info.length<274877000000):ai Tryz.prog 97 [.ro false .u8 sec,.ro false .u8 info,.int .i64 32] [] (.aT [.ro true .u8 (Kd.bp sec info 32),.bool true]) []:=by
 have hT:=Kd.eM sec (BC info)
 have ho:=KV hs hi hl hT
 have hr:=Xy sec info
 rw [KR]
 generalize Kd.bG sec (BC info)=T at hT ho hr
 have k:=aQ Xx 300 Tryz.func97 5 (by simp) hr ho rfl rfl
 have k2:ai Tryz.prog 97 [.ro false .u8 sec,.ro false .u8 info,.int .i64 32] [] (.aT [.sl 0 0 0 1 32 32 false false,.bool true]) [.b [.ints .u8 32 T]]:=ai.KE [4] k (by kernel_rfl)
 have k3:=ai.fz 0 0 (by simp) (by simp) k2 (u:=.aT [.ro true .u8 ((T.drop 0).take 32),.bool true]) (h2:=[]) (p:=aa (decide (T.length=32)) (decide (0+32≤32)&&true)) (by kernel_rfl) (by rw [hT];rfl)
 rw [List.drop_zero,List.take_of_length_le (by omega)] at k3
 exact k3
noncomputable def BE:List SV→Option (SV×List Blk×Bool)
 | [.ro false .u8 sec,.ro false .u8 info,.int .i64 n]=>some (.aT [.ro true .u8 (Kd.bp sec info 32),.bool true],[],decide (n=32)&&decide (sec.length=32)&&bE info&&decide (info.length<274877000000))
 |_=>none
noncomputable def KW:Entry Tryz.prog:=.val 97 _ Tryz.func97 (by decide) rfl true 0 BE fun vs v new e=>by
 unfold BE at e
 split at e
 ·simp only [Option.some.injEq,Prod.mk.injEq,Bool.and_eq_true,decide_eq_true_eq] at e
  obtain ⟨rfl,rfl,⟨⟨rfl,h1⟩,h2⟩,h3⟩:=e
  exact D6 h1 h2 h3
 ·cases e
noncomputable def lqC:bu:=mk (P:=Tryz.prog) [KW] [] fun i=>if i=15||i=20||i=24||i=27 then some false else if i=62 then some true else none
theorem Xz:ag Tryz.prog lqC:=ah _ au.nil _ _
def Ik:List Int:=[98,111,120]
def JN (ctx:List Int):List Int:=[0,32,3,98,111,120,IntKind.u8.wrap (IntKind.i64.wrap ((ctx.length:Int).tdiv 16777216)),IntKind.u8.wrap ((IntKind.i64.wrap ((ctx.length:Int).tdiv 65536)).tmod 256),IntKind.u8.wrap ((IntKind.i64.wrap ((ctx.length:Int).tdiv 256)).tmod 256),IntKind.u8.wrap ((ctx.length:Int).tmod 256)]
def lqO (ctx:List Int):Bool:=
 aa (aa (aa (aa (aa (aa (aa true (!decide ((ctx.length:Int)>65536))) true) true) true) true) (aa true (decide (10+ctx.length≤2^38))))
  (aa (aa true (aa (decide ((JN ctx++ctx).length=10+ctx.length)&&(decide (10+ctx.length≤10+ctx.length)&&true)) (decide ((JN ctx++ctx).length=10+ctx.length)))) (true&&bE (JN ctx++ctx)&&decide ((JN ctx++ctx).length<274877000000)))
theorem XA (sec ctx:List Int):(br Tryz.prog lqC 60 Tryz.f79 [.agg [.ints .u8 32 (aH 32 sec)],.str Ik,.ro false .u8 ctx,.int .i64 32] []).map (fun x=>(x.1,x.2.2))=
  some (.aT [.ro true .u8 (Kd.bp (aH 32 sec) (JN ctx++ctx) 32),.bool true],lqO ctx):=by kernel_rfl
theorem XB {ctx:List Int} (h:ctx.length≤65536):JN ctx++ctx=Kd.ur Ik ctx 32:=by
 have e24:bO .i64 (ctx.length:Int) 24=(ctx.length:Int)/16777216:=Fe.dB _ _ _ (by decide)
 have e16:bO .i64 (ctx.length:Int) 16=(ctx.length:Int)/65536:=Fe.dB _ _ _ (by decide)
 have e8:bO .i64 (ctx.length:Int) 8=(ctx.length:Int)/256:=Fe.dB _ _ _ (by decide)
 have h0:(0:Int)≤ctx.length:=by omega
 have d24:IntKind.u8.wrap (IntKind.i64.wrap ((ctx.length:Int).tdiv 16777216))=IntKind.u8.wrap (bO .i64 (ctx.length:Int) 24):=by
  rw [e24,Int.tdiv_eq_ediv_of_nonneg h0,wrap_i64 _ (by omega) (by omega)]
 have d16:IntKind.u8.wrap ((IntKind.i64.wrap ((ctx.length:Int).tdiv 65536)).tmod 256)=IntKind.u8.wrap (bO .i64 (ctx.length:Int) 16):=by
  rw [e16,Int.tdiv_eq_ediv_of_nonneg h0,wrap_i64 _ (by omega) (by omega),Int.tmod_eq_emod_of_nonneg (by omega),wrap_u8,wrap_u8];omega
 have d8:IntKind.u8.wrap ((IntKind.i64.wrap ((ctx.length:Int).tdiv 256)).tmod 256)=IntKind.u8.wrap (bO .i64 (ctx.length:Int) 8):=by
  rw [e8,Int.tdiv_eq_ediv_of_nonneg h0,wrap_i64 _ (by omega) (by omega),Int.tmod_eq_emod_of_nonneg (by omega),wrap_u8,wrap_u8];omega
 have d0:IntKind.u8.wrap ((ctx.length:Int).tmod 256)=IntKind.u8.wrap ctx.length:=by
  rw [Int.tmod_eq_emod_of_nonneg h0,wrap_u8,wrap_u8];omega
 unfold JN Kd.ur
 rw [d24,d16,d8,d0,show IntKind.u8.wrap (bO .i64 32 8)=0 by decide,show IntKind.u8.wrap 32=32 by decide,show IntKind.u8.wrap (Ik.length:Int)=3 by decide]
 simp [Ik]
theorem XC (ctx:List Int):bE (JN ctx)=true:=by
 have hw:∀n:Int,(decide (0≤IntKind.u8.wrap n)&&decide (IntKind.u8.wrap n<256))=true:=fun n=>by
  rw [wrap_u8]
  simp only [Bool.and_eq_true,decide_eq_true_eq]
  omega
 unfold bE JN
 simp only [List.all_cons,List.all_nil,hw]
 rfl
theorem Il {sec ctx:List Int} (hs:sec.length=32) (hc:bE ctx=true) (hl:ctx.length≤65536):ai Tryz.prog 79 [.agg [.ints .u8 32 sec],.str Ik,.ro false .u8 ctx,.int .i64 32] [] (.aT [.ro true .u8 (Kd.lM sec Ik ctx 32),.bool true]) []:=by
 have hb:bE (JN ctx++ctx)=true:=by
  have h1:(JN ctx).all (fun n=>decide (0≤n)&&decide (n<256))=true:=XC ctx
  have h2:ctx.all (fun n=>decide (0≤n)&&decide (n<256))=true:=hc
  unfold bE
  rw [List.all_append,h1,h2];rfl
 have hn:(JN ctx++ctx).length=10+ctx.length:=by rw [List.length_append];rfl
 have k:=aF Xz 60 Tryz.func79 (XA sec ctx) (by
  unfold lqO
  rw [hb,hn,decide_eq_false (show ¬(ctx.length:Int)>65536 by omega),decide_eq_true (show 10+ctx.length≤2^38 by omega),decide_eq_true (rfl:10+ctx.length=10+ctx.length),decide_eq_true (show 10+ctx.length≤10+ctx.length by omega),decide_eq_true (show 10+ctx.length<274877000000 by omega)]
  rfl) rfl
 rw [aG hs,XB hl] at k
 exact k
end Go.Proofs.YtibfpjeeanppjaaGreat.Q2
end
section
namespace Go.Proofs.YtibfpjeeanppjaaGreat.Q2
open Go Go.Sy Sh
set_option maxHeartbeats 0 in
theorem Q4 (text:List Int):(br Tryz.prog tqC 300 Tryz.f80 [.nl (.slice none 0 0),.ro false .u8 text] []).map (fun x=>(x.1,x.2.2))=some (.agg [.ints .u8 32 (tqW (qH 54) (qH 92) text)],tqO (qH 54) (qH 92) text):=by kernel_rfl
theorem F3 (c:Int):Kd.UX (Kd.FT (Kd.pdK [])) c=qH c:=by kernel_rfl
theorem qJ (c:Int):(qH c).length=64:=by simp [qH]
theorem F4 (c:Int):By (qH c):=by
 intro x hx
 simp only [qH,List.mem_replicate] at hx
 rw [hx.2]
 exact F0 _ _
theorem XD {text:List Int} (ht:By text) (hl:text.length<274877890000):tqW (qH 54) (qH 92) text=Kd.bG [] text:=by
 have h1:By (qH 54++text):=(F4 _).app ht
 have e1:=kH h1 (by rw [List.length_append,qJ];omega)
 have h2:By (qH 92++S2.aq (qH 54++text)):=(F4 _).app (S2.kI _)
 have e2:=kH h2 (by rw [List.length_append,qJ,S2.bn];omega)
 unfold tqW
 rw [Kd.bG,aD,Kd.jg,Kd.jg,aD,aD,F3,F3,e2,e1]
theorem Q5 {text:List Int} (ht:bE text=true) (hl:text.length<274877890000):ai Tryz.prog 80 [.nl (.slice none 0 0),.ro false .u8 text] [] (.agg [.ints .u8 32 (Kd.bG [] text)]) []:=by
 have k:=aF KT 300 Tryz.func80 (Q4 text) (BD (qJ _) (qJ _) hl) rfl
 rw [XD (Kr ht) hl] at k
 exact k
noncomputable def U4:List SV→Option (SV×List Blk×Bool)
 | [.nl (.slice none 0 0),.ro false .u8 text]=>some (.agg [.ints .u8 32 (Kd.bG [] text)],[],bE text&&decide (text.length<274877890000))
 |_=>none
noncomputable def acn:Entry Tryz.prog:=.val 80 _ Tryz.func80 (by decide) rfl true 0 U4 fun vs v new e=>by
 unfold U4 at e
 split at e
 ·simp only [Option.some.injEq,Prod.mk.injEq,Bool.and_eq_true,decide_eq_true_eq] at e
  obtain ⟨rfl,rfl,h2,h3⟩:=e
  exact Q5 h2 h3
 ·cases e
end Go.Proofs.YtibfpjeeanppjaaGreat.Q2
end
