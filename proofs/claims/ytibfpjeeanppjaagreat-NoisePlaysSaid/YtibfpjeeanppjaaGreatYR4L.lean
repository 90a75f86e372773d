/- This file proves the contracts of Seal and Open of the reference's chapter 4: they are the program's. Conditions: keys of 32 bytes; nonces of 12 bytes; texts of bytes; lengths that the program takes. -/
import Derived.Test.YtibfpjeeanppjaaGreatYR4K
set_option linter.all false
set_option maxRecDepth 100000
namespace Go.Proofs.YtibfpjeeanppjaaGreat.R4
open Go Go.Sy Sh
noncomputable def Br:List SV→Option (SV×List Blk×Bool)
 | [.agg [.ints .u8 32 key],.ro false .u8 af,.int .i64 n,.ro false .u8 text]=>some (.aT [.sl 0 0 0 1 text.length text.length false true,.int .i64 0],[.b [.ints .u8 text.length (Cc.cE key af n text)]],
   decide (key.length=32)&&dK key&&decide (af.length=12)&&dK af&&decide (0≤n)&&decide (n+(text.length/64:Nat)≤4294967295)&&decide (text.length<274877906000))
 |_=>none
noncomputable def Bm:Entry Tryz.prog:=.val 76 _ Tryz.func76 (by decide) rfl true 1 Br fun vs v new e=>by
 unfold Br at e
 split at e
 ·simp only [Option.some.injEq,Prod.mk.injEq,Bool.and_eq_true,decide_eq_true_eq] at e
  obtain ⟨rfl,rfl,⟨⟨⟨⟨⟨h1,h2⟩,h3⟩,h4⟩,h5⟩,h6⟩,h7⟩:=e
  exact R3.DV h1 h2 h3 h4 h5 h6 h7
 ·cases e
theorem O9 (k t:List Int):Dg (Ae.jO k t):=by
 rw [Ae.jO,aD]
 exact (AZ _).app (AZ _)
theorem Oa (key af ctx x:List Int):Dg (Ae.uo key af ctx x):=O9 _ _
theorem E6 {key af text:List Int} (n:Int):Dg (Cc.cE key af n text):=fun z hz=>by
 unfold Cc.cE at hz
 obtain ⟨j,_,rfl⟩:=List.mem_map.1 hz
 show 0≤cm .u8 _ _∧cm .u8 _ _<256
 unfold cm jy
 rw [Fe.wrap_u8]
 omega
noncomputable def sqC (f:Nat→Option Bool):bu:=mk (P:=Tryz.prog) [Bm,y7] [] f
theorem tA (f:Nat→Option Bool):ag Tryz.prog (sqC f):=ah _ au.nil _ _
def sqA:Nat→Option Bool:=fun i=>if i=15||i=19||i=24 then some false else if i=40 then some true else none
noncomputable def sqO (key af ctx text:List Int):Bool:=
 let m:=Cc.cE key af 1 text
 let A:=aa (aa (aa (aa true (!((af.length:Int) != 12))) (!decide ((ctx.length:Int)>1048576))) (!decide ((text.length:Int)>1048576))) (aa true (decide (key.length=32)&&dK key&&decide (af.length=12)&&dK af&&true&&decide ((1:Int)+(text.length/64:Nat)≤4294967295)&&decide (text.length<274877906000)))
 let B:=aa A (aa (aa true (aa true (aa true (aa (decide (m.length=text.length)&&(decide (text.length≤text.length)&&true)) (decide (m.length=text.length)))))) (decide (key.length=32)&&dK key&&decide (af.length=12)&&dK af&&dK ctx&&dK m&&decide (ctx.length+m.length<50000000)))
 aa B (aa (aa (aa (decide ((Ae.uo key af ctx m).length=16)&&true) (decide (m.length=text.length)&&(decide (text.length≤text.length)&&true))) (decide (m.length=text.length))) (decide (text.length+16≤274877906944)))
theorem aaw (key af ctx text:List Int):(br Tryz.prog (sqC sqA) 60 Tryz.f43 [.agg [.ints .u8 32 key],.ro false .u8 af,.ro false .u8 ctx,.ro false .u8 text] []).map (fun r=>(r.1,r.2.1.take 2,r.2.2))=
  some (.aT [.sl 1 0 0 1 (text.length+16) (text.length+16) false true,.int .i64 0],[.b [.ints .u8 32 key],.b [.ints .u8 (text.length+16) (Ae.fu key af ctx text)]],sqO key af ctx text):=by kernel_rfl
theorem af8 {key af ctx text:List Int} (hk:key.length=32) (dk:Dg key) (hn:af.length=12) (dn:Dg af) (dc:Dg ctx) (h1:ctx.length≤1048576) (h2:text.length≤1048576):
  ai Tryz.prog 43 [.agg [.ints .u8 32 key],.ro false .u8 af,.ro false .u8 ctx,.ro false .u8 text] [] (.aT [.sl 0 0 0 1 (text.length+16) (text.length+16) false true,.int .i64 0]) [.b [.ints .u8 (text.length+16) (Ae.fu key af ctx text)]]:=by
 have hm:=Ae.iA key af 1 text
 have ho:sqO key af ctx text=true:=by
  unfold sqO
  simp only [hm,Ae.qA,hk,hn,aY.2 dk,aY.2 dn,aY.2 dc,aY.2 (E6 (key:=key) (af:=af) (text:=text) 1)]
  rw [decide_eq_false (show ¬((ctx.length:Int)>1048576) by omega),decide_eq_false (show ¬((text.length:Int)>1048576) by omega),decide_eq_true (show (1:Int)+(text.length/64:Nat)≤4294967295 by omega),decide_eq_true (show text.length<274877906000 by omega),decide_eq_true (show ctx.length+text.length<50000000 by omega),decide_eq_true (show text.length+16≤274877906944 by omega),decide_eq_true (Nat.le_refl text.length)]
  rfl
 exact ai.KE [1] (aQ (tA sqA) 60 Tryz.func43 2 (by simp) (aaw key af ctx text) ho rfl rfl) (by kernel_rfl)
noncomputable def Pa:List SV→Option (SV×List Blk×Bool)
 | [.agg [.ints .u8 32 key],.ro false .u8 af,.ro false .u8 ctx,.ro false .u8 text]=>some (.aT [.ro true .u8 (Ae.fu key af ctx text),.int .i64 0],[],decide (key.length=32)&&dK key&&decide (af.length=12)&&dK af&&dK ctx&&decide (ctx.length≤1048576)&&decide (text.length≤1048576))
 |_=>none
noncomputable def ZC:Entry Tryz.prog:=.val 43 _ Tryz.func43 (by decide) rfl true 0 Pa fun vs v new e=>by
 unfold Pa at e
 split at e
 ·rename_i key af ctx text
  simp only [Option.some.injEq,Prod.mk.injEq,Bool.and_eq_true,decide_eq_true_eq,aY] at e
  obtain ⟨rfl,rfl,⟨⟨⟨⟨⟨h1,h2⟩,h3⟩,h4⟩,h5⟩,h6⟩,h7⟩:=e
  exact ai.fz 0 0 (by simp) (by simp) (af8 h1 h2 h3 h4 h5 h6 h7) (u:=.aT [.ro true .u8 (Ae.fu key af ctx text),.int .i64 0]) (h2:=[]) (p:=aa (decide ((Ae.fu key af ctx text).length=text.length+16)) (decide (text.length+16=text.length+16)&&true)) (by kernel_rfl) (by rw [Ae.fk,decide_eq_true rfl];rfl)
 ·cases e
def oqA (a b:Bool):Nat→Option Bool:=fun i=>if i=16||i=20||i=25 then some false else if i=31 then some a else if i=45 then some b else none
noncomputable def V9 (key af ctx x:List Int):List Int:=Ae.uo key af ctx (Ae.oZ x)
noncomputable def oqF (key af ctx x:List Int):Bool:=
 let m:=V9 key af ctx x
 let A:=aa (Ae.WO af ctx x) (!decide (Ae.JK x<0))
 let C:=aa (aa A (Ae.Qv x)) (aa true (decide (key.length=32)&&dK key&&decide (af.length=12)&&dK af&&dK ctx&&dK (Ae.oZ x)&&decide (ctx.length+(Ae.oZ x).length<50000000)))
 let D:=aa C (aa (aa (decide (m.length=16)&&true) (decide (m.length=16))) (bE m))
 let E:=aa D (aa true (Ae.Qv x))
 aa E (aa (aa true (decide ((Ae.Kg x).length=(Ae.Kg x).length))) (bE (Ae.Kg x)))
noncomputable def oqG (key af ctx x:List Int):Bool:=
 aa (aa (aa (oqF key af ctx x) (!!decide (V9 key af ctx x=Ae.Kg x))) (Ae.Qv x)) (aa true (decide (key.length=32)&&dK key&&decide (af.length=12)&&dK af&&true&&decide ((1:Int)+((Ae.oZ x).length/64:Nat)≤4294967295)&&decide ((Ae.oZ x).length<274877906000)))
def TS:SV:=.aT [.nl (.slice none 0 0),.int .i64 2]
section
variable (key af ctx x:List Int)
theorem TT:(br Tryz.prog (sqC (oqA true true)) 60 Tryz.f47 [.agg [.ints .u8 32 key],.ro false .u8 af,.ro false .u8 ctx,.ro false .u8 x] []).map (fun r=>(r.1,r.2.2))=some (TS,aa (Ae.WO af ctx x) (decide (Ae.JK x<0))):=by kernel_rfl
theorem TU:(br Tryz.prog (sqC (oqA false true)) 60 Tryz.f47 [.agg [.ints .u8 32 key],.ro false .u8 af,.ro false .u8 ctx,.ro false .u8 x] []).map (fun r=>(r.1,r.2.2))=some (TS,aa (oqF key af ctx x) (!decide (V9 key af ctx x=Ae.Kg x))):=by kernel_rfl
theorem TV:(br Tryz.prog (sqC (oqA false false)) 60 Tryz.f47 [.agg [.ints .u8 32 key],.ro false .u8 af,.ro false .u8 ctx,.ro false .u8 x] []).map (fun r=>(r.1,r.2.1.take 3,r.2.2))=
  some (.aT [.sl 2 0 0 1 (Ae.oZ x).length (Ae.oZ x).length false true,.int .i64 0],[.b [.ints .u8 32 key],.b [.ints .u8 16 (V9 key af ctx x)],.b [.ints .u8 (Ae.oZ x).length (Cc.cE key af 1 (Ae.oZ x))]],oqG key af ctx x):=by kernel_rfl
end
section
variable {key af ctx x:List Int} (hk:key.length=32) (dk:Dg key) (hn:af.length=12) (dn:Dg af) (dc:Dg ctx) (dx:Dg x) (h1:ctx.length≤1048592) (h2:x.length≤1048592)
include hk dk hn dn dc dx h1 h2 in
theorem Dl (h:16≤x.length):oqF key af ctx x=true:=by
 obtain ⟨a1,a2,a3⟩:=Ae.ni (key:=key) hn h1 h2
 obtain ⟨b1,b2,b3,b4⟩:=a2 h
 have hl:(Ae.oZ x).length≤x.length:=by rw [b1,List.length_take];omega
 unfold oqF V9
 simp only [a1,a3,b4,hk,hn,aY.2 dk,aY.2 dn,aY.2 dc,Ae.qA]
 rw [aY.2 (show Dg (Ae.oZ x) by rw [b1];exact dx.take _),show bE (Ae.Kg x)=true from aY.2 (by rw [b2];exact dx.drop _),show bE (Ae.uo key af ctx (Ae.oZ x))=true from aY.2 (Oa _ _ _ _),decide_eq_true h,decide_eq_true (show ctx.length+(Ae.oZ x).length<50000000 by omega)]
 rfl
include hk dk hn dn dc dx h1 h2 in
theorem Jx (ok:Ae.bJ key af ctx x=false):ai Tryz.prog 47 [.agg [.ints .u8 32 key],.ro false .u8 af,.ro false .u8 ctx,.ro false .u8 x] [] TS []:=by
 obtain ⟨a1,a2,a3⟩:=Ae.ni (key:=key) hn h1 h2
 unfold Ae.bJ at ok
 by_cases h:16≤x.length
 ·obtain ⟨b1,b2,b3,b4⟩:=a2 h
  rw [decide_eq_true h,Bool.true_and] at ok
  have hf:=Dl hk dk hn dn dc dx h1 h2 h
  exact aF (tA _) 60 Tryz.func47 (TU key af ctx x) (by rw [hf];unfold V9;rw [b1,b2,ok];rfl) rfl
 ·rw [decide_eq_false h] at a3
  exact aF (tA _) 60 Tryz.func47 (TT key af ctx x) (by rw [a1,a3];rfl) rfl
include hk dk hn dn dc dx h1 h2 in
theorem Pb (ok:Ae.bJ key af ctx x=true):ai Tryz.prog 47 [.agg [.ints .u8 32 key],.ro false .u8 af,.ro false .u8 ctx,.ro false .u8 x] [] (.aT [.ro true .u8 (Ae.cn key af x),.int .i64 0]) []:=by
 obtain ⟨a1,a2,a3⟩:=Ae.ni (key:=key) hn h1 h2
 unfold Ae.bJ at ok
 simp only [Bool.and_eq_true,decide_eq_true_eq] at ok
 obtain ⟨b1,b2,b3,b4⟩:=a2 ok.1
 have hf:=Dl hk dk hn dn dc dx h1 h2 ok.1
 have hl:(Ae.oZ x).length≤x.length:=by rw [b1,List.length_take];omega
 have hg:oqG key af ctx x=true:=by
  unfold oqG
  rw [hf,b4,hk,hn,aY.2 dk,aY.2 dn,decide_eq_true (show (1:Int)+((Ae.oZ x).length/64:Nat)≤4294967295 by omega),decide_eq_true (show (Ae.oZ x).length<274877906000 by omega),show V9 key af ctx x=Ae.Kg x by unfold V9;rw [b1,b2];exact ok.2,decide_eq_true rfl]
  rfl
 have g:=aQ (tA _) 60 Tryz.func47 3 (by simp) (TV key af ctx x) hg rfl rfl
 have hw:Ae.cn key af x=Cc.cE key af 1 (Ae.oZ x):=by unfold Ae.cn;rw [b1]
 rw [hw]
 exact ai.fz 2 0 (by simp) (by simp) g (u:=.aT [.ro true .u8 (Cc.cE key af 1 (Ae.oZ x)),.int .i64 0]) (h2:=[]) (p:=aa (decide ((Cc.cE key af 1 (Ae.oZ x)).length=(Ae.oZ x).length)) (decide ((Ae.oZ x).length=(Ae.oZ x).length)&&true)) (by kernel_rfl) (by rw [Ae.iA,decide_eq_true rfl];rfl)
end
noncomputable def Pc (ok:Bool):List SV→Option (SV×List Blk×Bool)
 | [.agg [.ints .u8 32 key],.ro false .u8 af,.ro false .u8 ctx,.ro false .u8 x]=>match ok with
  |true=>some (.aT [.ro true .u8 (Ae.cn key af x),.int .i64 0],[],decide (key.length=32)&&dK key&&decide (af.length=12)&&dK af&&dK ctx&&dK x&&decide (ctx.length≤1048592)&&decide (x.length≤1048592)&&Ae.bJ key af ctx x)
  |false=>some (TS,[],decide (key.length=32)&&dK key&&decide (af.length=12)&&dK af&&dK ctx&&dK x&&decide (ctx.length≤1048592)&&decide (x.length≤1048592)&&!Ae.bJ key af ctx x)
 |_=>none
noncomputable def Ks (ok:Bool):Entry Tryz.prog:=.val 47 _ Tryz.func47 (by decide) rfl true 0 (Pc ok) fun vs v new e=>by
 unfold Pc at e
 split at e
 ·split at e
  ·simp only [Option.some.injEq,Prod.mk.injEq,Bool.and_eq_true,decide_eq_true_eq,aY] at e
   obtain ⟨rfl,rfl,⟨⟨⟨⟨⟨⟨⟨h1,h2⟩,h3⟩,h4⟩,h5⟩,h6⟩,h7⟩,h8⟩,h9⟩:=e
   exact Pb h1 h2 h3 h4 h5 h6 h7 h8 h9
  ·simp only [Option.some.injEq,Prod.mk.injEq,Bool.and_eq_true,decide_eq_true_eq,aY,Bool.not_eq_true'] at e
   obtain ⟨rfl,rfl,⟨⟨⟨⟨⟨⟨⟨h1,h2⟩,h3⟩,h4⟩,h5⟩,h6⟩,h7⟩,h8⟩,h9⟩:=e
   exact Jx h1 h2 h3 h4 h5 h6 h7 h8 h9
 ·cases e
end Go.Proofs.YtibfpjeeanppjaaGreat.R4
