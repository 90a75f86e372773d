/- This file proves the contracts of Seal and Open of the reference's chapter 4: they are the program's. Conditions: keys of 32 bytes; nonces of 12 bytes; texts of bytes; lengths that the program takes. -/
import Derived.Test.YtibfpjeeanppjaaGreatUR4K
set_option linter.all false
set_option maxRecDepth 100000
namespace Go.Proofs.YtibfpjeeanppjaaGreat.R4
open Go Go.Sy Sh
noncomputable def JE:List SV→Option (SV×List Blk×Bool)
 | [.agg [.ints .u8 32 key],.ro false .u8 af,.int .i64 n,.ro false .u8 text]=>some (.bk [.sl 0 0 0 1 text.length text.length false true,.int .i64 0],[.b [.ints .u8 text.length (Cc.cI key af n text)]],
   decide (key.length=32)&&iH key&&decide (af.length=12)&&iH af&&decide (0≤n)&&decide (n+(text.length/64:Nat)≤4294967295)&&decide (text.length<274877906000))
 |_=>none
noncomputable def NV:Entry Tryz.prog:=.val 76 _ Tryz.func76 (by decide) rfl true 1 JE fun vs v new e=>by
 unfold JE at e
 split at e
 ·simp only [Option.some.injEq,Prod.mk.injEq,Bool.and_eq_true,decide_eq_true_eq] at e
  obtain ⟨rfl,rfl,⟨⟨⟨⟨⟨h1,h2⟩,h3⟩,h4⟩,h5⟩,h6⟩,h7⟩:=e
  exact R3.BT h1 h2 h3 h4 h5 h6 h7
 ·cases e
theorem MM (k t:List Int):Dg (Ae.gn k t):=by
 rw [Ae.gn,aq]
 exact (yW _).app (yW _)
theorem UO (key af ctx x:List Int):Dg (Ae.sy key af ctx x):=MM _ _
theorem Jn {key af text:List Int} (n:Int):Dg (Cc.cI key af n text):=fun z hz=>by
 unfold Cc.cI at hz
 obtain ⟨j,_,rfl⟩:=List.mem_map.1 hz
 show 0≤cj .u8 _ _∧cj .u8 _ _<256
 unfold cj ja
 rw [Fe.wrap_u8]
 omega
noncomputable def sqC (f:Nat→Option Bool):bK:=mk (P:=Tryz.prog) [NV,xl] [] f
theorem C7 (f:Nat→Option Bool):ag Tryz.prog (sqC f):=ai _ aF.nil _ _
def sqA:Nat→Option Bool:=fun i=>if i=15||i=19||i=24 then some false else if i=40 then some true else none
noncomputable def sqO (key af ctx text:List Int):Bool:=
 let m:=Cc.cI key af 1 text
 let A:=aa (aa (aa (aa true (!((af.length:Int) != 12))) (!decide ((ctx.length:Int)>1048576))) (!decide ((text.length:Int)>1048576))) (aa true (decide (key.length=32)&&iH key&&decide (af.length=12)&&iH af&&true&&decide ((1:Int)+(text.length/64:Nat)≤4294967295)&&decide (text.length<274877906000)))
 let B:=aa A (aa (aa true (aa true (aa true (aa (decide (m.length=text.length)&&(decide (text.length≤text.length)&&true)) (decide (m.length=text.length)))))) (decide (key.length=32)&&iH key&&decide (af.length=12)&&iH af&&iH ctx&&iH m&&decide (ctx.length+m.length<50000000)))
 aa B (aa (aa (aa (decide ((Ae.sy key af ctx m).length=16)&&true) (decide (m.length=text.length)&&(decide (text.length≤text.length)&&true))) (decide (m.length=text.length))) (decide (text.length+16≤274877906944)))
theorem Xq (key af ctx text:List Int):(bE Tryz.prog (sqC sqA) 60 Tryz.f43 [.agg [.ints .u8 32 key],.ro false .u8 af,.ro false .u8 ctx,.ro false .u8 text] []).map (fun r=>(r.1,r.2.1.take 2,r.2.2))=
  some (.bk [.sl 1 0 0 1 (text.length+16) (text.length+16) false true,.int .i64 0],[.b [.ints .u8 32 key],.b [.ints .u8 (text.length+16) (Ae.eW key af ctx text)]],sqO key af ctx text):=by kernel_rfl
theorem acy {key af ctx text:List Int} (hk:key.length=32) (dk:Dg key) (hn:af.length=12) (dn:Dg af) (dc:Dg ctx) (h1:ctx.length≤1048576) (h2:text.length≤1048576):
  aj Tryz.prog 43 [.agg [.ints .u8 32 key],.ro false .u8 af,.ro false .u8 ctx,.ro false .u8 text] [] (.bk [.sl 0 0 0 1 (text.length+16) (text.length+16) false true,.int .i64 0]) [.b [.ints .u8 (text.length+16) (Ae.eW key af ctx text)]]:=by
 have hm:=Ae.iZ key af 1 text
 have ho:sqO key af ctx text=true:=by
  unfold sqO
  simp only [hm,Ae.sS,hk,hn,bF.2 dk,bF.2 dn,bF.2 dc,bF.2 (Jn (key:=key) (af:=af) (text:=text) 1)]
  rw [decide_eq_false (show ¬((ctx.length:Int)>1048576) by omega),decide_eq_false (show ¬((text.length:Int)>1048576) by omega),decide_eq_true (show (1:Int)+(text.length/64:Nat)≤4294967295 by omega),decide_eq_true (show text.length<274877906000 by omega),decide_eq_true (show ctx.length+text.length<50000000 by omega),decide_eq_true (show text.length+16≤274877906944 by omega),decide_eq_true (Nat.le_refl text.length)]
  rfl
 exact aj.R8 [1] (dF (C7 sqA) 60 Tryz.func43 2 (by simp) (Xq key af ctx text) ho rfl rfl) (by kernel_rfl)
noncomputable def MN:List SV→Option (SV×List Blk×Bool)
 | [.agg [.ints .u8 32 key],.ro false .u8 af,.ro false .u8 ctx,.ro false .u8 text]=>some (.bk [.ro true .u8 (Ae.eW key af ctx text),.int .i64 0],[],decide (key.length=32)&&iH key&&decide (af.length=12)&&iH af&&iH ctx&&decide (ctx.length≤1048576)&&decide (text.length≤1048576))
 |_=>none
noncomputable def Uv:Entry Tryz.prog:=.val 43 _ Tryz.func43 (by decide) rfl true 0 MN fun vs v new e=>by
 unfold MN at e
 split at e
 ·rename_i key af ctx text
  simp only [Option.some.injEq,Prod.mk.injEq,Bool.and_eq_true,decide_eq_true_eq,bF] at e
  obtain ⟨rfl,rfl,⟨⟨⟨⟨⟨h1,h2⟩,h3⟩,h4⟩,h5⟩,h6⟩,h7⟩:=e
  exact aj.fz 0 0 (by simp) (by simp) (acy h1 h2 h3 h4 h5 h6 h7) (u:=.bk [.ro true .u8 (Ae.eW key af ctx text),.int .i64 0]) (h2:=[]) (p:=aa (decide ((Ae.eW key af ctx text).length=text.length+16)) (decide (text.length+16=text.length+16)&&true)) (by kernel_rfl) (by rw [Ae.iT,decide_eq_true rfl];rfl)
 ·cases e
section
variable (key af ctx x:List Int)
end
section
variable {key af ctx x:List Int} (hk:key.length=32) (dk:Dg key) (hn:af.length=12) (dn:Dg af) (dc:Dg ctx) (dx:Dg x) (h1:ctx.length≤1048592) (h2:x.length≤1048592)
include hk dk hn dn dc dx h1 h2 in
include hk dk hn dn dc dx h1 h2 in
include hk dk hn dn dc dx h1 h2 in
end
end Go.Proofs.YtibfpjeeanppjaaGreat.R4
