/- This file holds the texts KdE, KdF, a section each. No conditions beyond those in the theorems. -/
import Derived.Test.YtibfpjeeanppjaaGreatUS2F
import Derived.Test.YtibfpjeeanppjaaGreatUKdD
set_option linter.all false
set_option maxRecDepth 100000
section
namespace Go.Proofs.YtibfpjeeanppjaaGreat.Q2
open Go Go.Sy Sh
noncomputable def tqC:bK:=mk (P:=Tryz.prog) [JL] [] fun i=>if i=16 then some false else none
theorem JM:ag Tryz.prog tqC:=ai _ aF.nil _ _
def oF (key:List Int) (c:Int):List Int:=(List.range 32).map (fun i=>cj .u8 (key.getD i 0) c)++List.replicate 32 (cj .u8 0 c)
def pR (c:Int):List Int:=List.replicate 64 (cj .u8 0 c)
noncomputable def Yd (k36 k5c text:List Int):List Int:=gE (k5c++gE (k36++text))
noncomputable def tqO (a b c:List Int):Bool:=
 aa (aa (aa (aa true (aa true (decide (64+c.length≤2^38)))) (aa (aa (decide ((a++c).length=64+c.length)&&(decide (64+c.length≤64+c.length)&&true)) (decide ((a++c).length=64+c.length))) (decide ((a++c).length<274877900000)))) (decide ((gE (a++c)).length=32)&&true))
  (aa (aa (decide ((b++gE (a++c)).length=64+32)&&true) (decide ((b++gE (a++c)).length=64+32))) (decide ((b++gE (a++c)).length<274877900000)))
theorem BX (xs:List Int):(gE xs).length=32:=by rw [gE,aq];simp [S2.zm]
theorem pT (key:List Int) (c:Int):(oF key c).length=64:=by simp [oF]
theorem zR {a b c:List Int} (ha:a.length=64) (hb:b.length=64) (hc:c.length<274877890000):tqO a b c=true:=by
 unfold tqO
 rw [List.length_append,List.length_append,BX,ha,hb,decide_eq_true (show 64+c.length≤2^38 by omega),decide_eq_true (rfl:64+c.length=64+c.length),decide_eq_true (show 64+c.length≤64+c.length by omega),decide_eq_true (show 64+c.length<274877900000 by omega)]
 rfl
set_option maxHeartbeats 0 in
theorem Ve (key text:List Int):(bE Tryz.prog tqC 300 Tryz.f80 [.ro false .u8 (aO 32 key),.ro false .u8 text] []).map (fun x=>(x.1,x.2.2))=some (.agg [.ints .u8 32 (Yd (oF key 54) (oF key 92) text)],tqO (oF key 54) (oF key 92) text):=by kernel_rfl
end Go.Proofs.YtibfpjeeanppjaaGreat.Q2
end
section
namespace Go.Proofs.YtibfpjeeanppjaaGreat.Q2
open Go Go.Sy Sh
theorem DL (a b:Int):0≤cj .u8 a b∧cj .u8 a b<256:=by
 unfold cj ja
 rw [wrap_u8]
 omega
theorem Vf (key:List Int) (c:Int):Kd.NY (Kd.BE (Kd.YV (aO 32 key))) c=oF (aO 32 key) c:=by kernel_rfl
theorem DM {key:List Int} (h:key.length=32) (c:Int):Kd.ic key c=oF key c:=by
 have:=Vf key c
 rw [aJ h] at this
 rw [Kd.ic,aq,this]
theorem DN (key:List Int) (c:Int):By (oF key c):=by
 intro x hx
 simp only [oF,List.mem_append,List.mem_map,List.mem_replicate] at hx
 rcases hx with ⟨i,_,rfl⟩|⟨_,rfl⟩<;>exact DL _ _
theorem By.app {a b:List Int} (ha:By a) (hb:By b):By (a++b):=fun x hx=>(List.mem_append.1 hx).elim (ha x) (hb x)
theorem aaf {key text:List Int} (h:key.length=32) (ht:By text) (hl:text.length<274877890000):Yd (oF key 54) (oF key 92) text=Kd.ej key text:=by
 have h1:By (oF key 54++text):=(DN _ _).app ht
 have e1:=jY h1 (by rw [List.length_append,pT];omega)
 have h2:By (oF key 92++S2.bn (oF key 54++text)):=(DN _ _).app (S2.ni _)
 have e2:=jY h2 (by rw [List.length_append,pT,S2.eD];omega)
 unfold Yd
 rw [Kd.ej,aq,DM h,DM h,e2,e1]
theorem IX {l:List Int} (h:dD l=true):By l:=fun x hx=>by
 have:=List.all_eq_true.1 h x hx
 simpa using this
theorem OV {key text:List Int} (h:key.length=32) (ht:dD text=true) (hl:text.length<274877890000):aj Tryz.prog 80 [.ro false .u8 key,.ro false .u8 text] [] (.agg [.ints .u8 32 (Kd.ej key text)]) []:=by
 have k:=aP JM 300 Tryz.func80 (Ve key text) (zR (pT _ _) (pT _ _) hl) rfl
 rw [aJ h,aaf h (IX ht) hl] at k
 exact k
noncomputable def SA:List SV→Option (SV×List Blk×Bool)
 | [.ro false .u8 key,.ro false .u8 text]=>some (.agg [.ints .u8 32 (Kd.ej key text)],[],decide (key.length=32)&&dD text&&decide (text.length<274877890000))
 |_=>none
noncomputable def aag:Entry Tryz.prog:=.val 80 _ Tryz.func80 (by decide) rfl true 0 SA fun vs v new e=>by
 unfold SA at e
 split at e
 ·simp only [Option.some.injEq,Prod.mk.injEq,Bool.and_eq_true,decide_eq_true_eq] at e
  obtain ⟨rfl,rfl,⟨h1,h2⟩,h3⟩:=e
  exact OV h1 h2 h3
 ·cases e
noncomputable def xqC:bK:=mk (P:=Tryz.prog) [aag] [] fun i=>if i=13||i=17 then some false else none
theorem Vg:ag Tryz.prog xqC:=ai _ aF.nil _ _
def xqO (sec info T:List Int):Bool:=
 aa (aa (aa (aa (aa (aa true (aa true (decide (0+0+info.length≤2^38)))) (aa (aa (aa (aa (true&&true) (decide (info.length=0+0+info.length)&&(decide (0+0+info.length≤0+0+info.length)&&true))) (decide (info.length=0+0+info.length))) true) (decide (0+0+info.length+1≤2^38))))
  (aa (aa true (aa (decide ((xx info).length=0+0+info.length+1)&&(decide (0+0+info.length+1≤0+0+info.length+1)&&true)) (decide ((xx info).length=0+0+info.length+1)))) (decide (sec.length=32)&&dD (xx info)&&decide ((xx info).length<274877890000))))
  (aa true true)) (aa (decide (T.length=32)&&true) true)) (aa (decide (T.length=0+32)&&true) true)
theorem JN {sec info T:List Int} (hs:sec.length=32) (hi:dD info=true) (hl:info.length<274877000000) (hT:T.length=32):xqO sec info T=true:=by
 have hm:(xx info).length=info.length+1:=by simp [xx]
 have hb:dD (xx info)=true:=by
  unfold xx dD
  rw [List.all_append]
  have h:info.all (fun n=>decide (0≤n)&&decide (n<256))=true:=hi
  rw [h];rfl
 unfold xqO
 rw [hm,hb,hs,hT,decide_eq_true (show 0+0+info.length≤2^38 by omega),decide_eq_true (show 0+0+info.length+1≤2^38 by omega),decide_eq_true (show info.length=0+0+info.length by omega),decide_eq_true (show 0+0+info.length≤0+0+info.length by omega),decide_eq_true (show info.length+1=0+0+info.length+1 by omega),
  decide_eq_true (show 0+0+info.length+1≤0+0+info.length+1 by omega),decide_eq_true (show info.length+1<274877890000 by omega)]
 rfl
theorem Vh (sec info:List Int):(bE Tryz.prog xqC 300 Tryz.f97 [.ro false .u8 sec,.ro false .u8 info,.int .i64 32] []).map (fun x=>(x.1,x.2.1.take 5,x.2.2))=
  some (.bk [.sl 4 0 0 1 32 32 false false,.bool true],[.b [.ints .u8 (0+0+info.length+1) (xx info)],.b [.ints .u8 1 [1]],.b [.ints .u8 32 (Kd.ej sec (xx info))],.b [.ints .u8 32 (Kd.ej sec (xx info))],.b [.ints .u8 32 (Kd.ej sec (xx info))]],xqO sec info (Kd.ej sec (xx info))):=by kernel_rfl
theorem BY {sec info:List Int} (hs:sec.length=32) (hi:dD info=true) (hl:info.length<274877000000):aj Tryz.prog 97 [.ro false .u8 sec,.ro false .u8 info,.int .i64 32] [] (.bk [.ro true .u8 (Kd.b7 sec info 32),.bool true]) []:=by
 have hT:=Kd.mc sec (xx info)
 have ho:=JN hs hi hl hT
 have hr:=Vh sec info
 rw [pO]
 generalize Kd.ej sec (xx info)=T at hT ho hr
 have k:=dF Vg 300 Tryz.func97 5 (by simp) hr ho rfl rfl
 have k2:aj Tryz.prog 97 [.ro false .u8 sec,.ro false .u8 info,.int .i64 32] [] (.bk [.sl 0 0 0 1 32 32 false false,.bool true]) [.b [.ints .u8 32 T]]:=aj.R8 [4] k (by kernel_rfl)
 have k3:=aj.fz 0 0 (by simp) (by simp) k2 (u:=.bk [.ro true .u8 ((T.drop 0).take 32),.bool true]) (h2:=[]) (p:=aa (decide (T.length=32)) (decide (0+32≤32)&&true)) (by kernel_rfl) (by rw [hT];rfl)
 rw [List.drop_zero,List.take_of_length_le (by omega)] at k3
 exact k3
noncomputable def zS:List SV→Option (SV×List Blk×Bool)
 | [.ro false .u8 sec,.ro false .u8 info,.int .i64 n]=>some (.bk [.ro true .u8 (Kd.b7 sec info 32),.bool true],[],decide (n=32)&&decide (sec.length=32)&&dD info&&decide (info.length<274877000000))
 |_=>none
noncomputable def JO:Entry Tryz.prog:=.val 97 _ Tryz.func97 (by decide) rfl true 0 zS fun vs v new e=>by
 unfold zS at e
 split at e
 ·simp only [Option.some.injEq,Prod.mk.injEq,Bool.and_eq_true,decide_eq_true_eq] at e
  obtain ⟨rfl,rfl,⟨⟨rfl,h1⟩,h2⟩,h3⟩:=e
  exact BY h1 h2 h3
 ·cases e
noncomputable def lqC:bK:=mk (P:=Tryz.prog) [JO] [] fun i=>if i=15||i=20||i=24||i=27 then some false else if i=62 then some true else none
theorem Vi:ag Tryz.prog lqC:=ai _ aF.nil _ _
def zG:List Int:=[98,111,120]
def He (ctx:List Int):List Int:=[0,32,3,98,111,120,IntKind.u8.wrap (IntKind.i64.wrap ((ctx.length:Int).tdiv 16777216)),IntKind.u8.wrap ((IntKind.i64.wrap ((ctx.length:Int).tdiv 65536)).tmod 256),IntKind.u8.wrap ((IntKind.i64.wrap ((ctx.length:Int).tdiv 256)).tmod 256),IntKind.u8.wrap ((ctx.length:Int).tmod 256)]
def lqO (ctx:List Int):Bool:=
 aa (aa (aa (aa (aa (aa (aa true (!decide ((ctx.length:Int)>65536))) true) true) true) true) (aa true (decide (10+ctx.length≤2^38))))
  (aa (aa true (aa (decide ((He ctx++ctx).length=10+ctx.length)&&(decide (10+ctx.length≤10+ctx.length)&&true)) (decide ((He ctx++ctx).length=10+ctx.length)))) (true&&dD (He ctx++ctx)&&decide ((He ctx++ctx).length<274877000000)))
theorem Vj (sec ctx:List Int):(bE Tryz.prog lqC 60 Tryz.f79 [.agg [.ints .u8 32 (aO 32 sec)],.str zG,.ro false .u8 ctx,.int .i64 32] []).map (fun x=>(x.1,x.2.2))=
  some (.bk [.ro true .u8 (Kd.b7 (aO 32 sec) (He ctx++ctx) 32),.bool true],lqO ctx):=by kernel_rfl
theorem Vk {ctx:List Int} (h:ctx.length≤65536):He ctx++ctx=Kd.nQ zG ctx 32:=by
 have e24:bh .i64 (ctx.length:Int) 24=(ctx.length:Int)/16777216:=Fe.dj _ _ _ (by decide)
 have e16:bh .i64 (ctx.length:Int) 16=(ctx.length:Int)/65536:=Fe.dj _ _ _ (by decide)
 have e8:bh .i64 (ctx.length:Int) 8=(ctx.length:Int)/256:=Fe.dj _ _ _ (by decide)
 have h0:(0:Int)≤ctx.length:=by omega
 have d24:IntKind.u8.wrap (IntKind.i64.wrap ((ctx.length:Int).tdiv 16777216))=IntKind.u8.wrap (bh .i64 (ctx.length:Int) 24):=by
  rw [e24,Int.tdiv_eq_ediv_of_nonneg h0,wrap_i64 _ (by omega) (by omega)]
 have d16:IntKind.u8.wrap ((IntKind.i64.wrap ((ctx.length:Int).tdiv 65536)).tmod 256)=IntKind.u8.wrap (bh .i64 (ctx.length:Int) 16):=by
  rw [e16,Int.tdiv_eq_ediv_of_nonneg h0,wrap_i64 _ (by omega) (by omega),Int.tmod_eq_emod_of_nonneg (by omega),wrap_u8,wrap_u8];omega
 have d8:IntKind.u8.wrap ((IntKind.i64.wrap ((ctx.length:Int).tdiv 256)).tmod 256)=IntKind.u8.wrap (bh .i64 (ctx.length:Int) 8):=by
  rw [e8,Int.tdiv_eq_ediv_of_nonneg h0,wrap_i64 _ (by omega) (by omega),Int.tmod_eq_emod_of_nonneg (by omega),wrap_u8,wrap_u8];omega
 have d0:IntKind.u8.wrap ((ctx.length:Int).tmod 256)=IntKind.u8.wrap ctx.length:=by
  rw [Int.tmod_eq_emod_of_nonneg h0,wrap_u8,wrap_u8];omega
 unfold He Kd.nQ
 rw [d24,d16,d8,d0,show IntKind.u8.wrap (bh .i64 32 8)=0 by decide,show IntKind.u8.wrap 32=32 by decide,show IntKind.u8.wrap (zG.length:Int)=3 by decide]
 simp [zG]
theorem Vl (ctx:List Int):dD (He ctx)=true:=by
 have hw:∀n:Int,(decide (0≤IntKind.u8.wrap n)&&decide (IntKind.u8.wrap n<256))=true:=fun n=>by
  rw [wrap_u8]
  simp only [Bool.and_eq_true,decide_eq_true_eq]
  omega
 unfold dD He
 simp only [List.all_cons,List.all_nil,hw]
 rfl
theorem FL {sec ctx:List Int} (hs:sec.length=32) (hc:dD ctx=true) (hl:ctx.length≤65536):aj Tryz.prog 79 [.agg [.ints .u8 32 sec],.str zG,.ro false .u8 ctx,.int .i64 32] [] (.bk [.ro true .u8 (Kd.ij sec zG ctx 32),.bool true]) []:=by
 have hb:dD (He ctx++ctx)=true:=by
  have h1:(He ctx).all (fun n=>decide (0≤n)&&decide (n<256))=true:=Vl ctx
  have h2:ctx.all (fun n=>decide (0≤n)&&decide (n<256))=true:=hc
  unfold dD
  rw [List.all_append,h1,h2];rfl
 have hn:(He ctx++ctx).length=10+ctx.length:=by rw [List.length_append];rfl
 have k:=aP Vi 60 Tryz.func79 (Vj sec ctx) (by
  unfold lqO
  rw [hb,hn,decide_eq_false (show ¬(ctx.length:Int)>65536 by omega),decide_eq_true (show 10+ctx.length≤2^38 by omega),decide_eq_true (rfl:10+ctx.length=10+ctx.length),decide_eq_true (show 10+ctx.length≤10+ctx.length by omega),decide_eq_true (show 10+ctx.length<274877000000 by omega)]
  rfl) rfl
 rw [aJ hs,Vk hl] at k
 exact k
end Go.Proofs.YtibfpjeeanppjaaGreat.Q2
end
