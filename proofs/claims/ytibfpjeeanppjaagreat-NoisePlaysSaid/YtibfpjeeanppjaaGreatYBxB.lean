/- This file holds the texts BxA, BxB, a section each. No conditions beyond those in the theorems. -/
import Derived.Test.YtibfpjeeanppjaaGreatYLaF
import Derived.Test.YtibfpjeeanppjaaGreatYKdD
import Derived.Test.YtibfpjeeanppjaaGreatYAeF
import Derived.Test.YtibfpjeeanppjaaGreatYKdG
import Derived.Test.YtibfpjeeanppjaaGreatYR4L
set_option linter.all false
set_option maxRecDepth 100000
section
namespace Go.Proofs.YtibfpjeeanppjaaGreat.Bx
open Go Go.Sy Sh La
noncomputable def UO:List SV→Option (SV×List Blk×Bool)
 | [.nl (.slice none 0 0),.ro false .u8 m]=>some (.agg [.ints .u8 32 (Kd.bG [] m)],[],decide (m.length<274877890000))
 |_=>none
noncomputable def acg:Entry Tryz.prog:=.val 70 _ Tryz.func70 (by decide) rfl true 0 UO fun vs v new e=>by
 unfold UO at e
 split at e
 ·rename_i m
  simp only [Option.some.injEq,Prod.mk.injEq,decide_eq_true_eq] at e
  obtain ⟨rfl,rfl,h⟩:=e
  have hm:[m].flatten=m:=by simp
  have k:=aF Kd.Kk 60 Tryz.func70 (Kd.tF [] m) (by rw [hm,decide_eq_true h];rfl) rfl
  rw [hm] at k
  exact ai.conv k ⟨VE.sw _ _,VE.refl _,trivial⟩ trivial (VE.refl _) trivial
 ·cases e
noncomputable def kyC (b:Bool):bu:=mk (P:=Tryz.prog) [vA b,S2.nj,acg,Kd.WX,Sh.jf] [] fun i=>if i=23 then some b else none
theorem Kl (b:Bool):ag Tryz.prog (kyC b):=ah _ au.nil _ _
def Ik:List Int:=[98,111,120]
noncomputable def QA (d p info:List Int):List Int:=[d,p,S2.aq [info].flatten].flatten
noncomputable def lbW (s o d p info:List Int):List Int:=Kd.lM (Kd.bG [] (eu s o)) Ik (QA d p info) 32
noncomputable def Km (s o d p info:List Int):List Int:=gY (lbW s o d p info)
theorem FJ (s o d p info:List Int):(lbW s o d p info).length=32:=Kd.pQ _ _ _ _
noncomputable def kyO (s o d p info:List Int):Bool:=
 aa (aa (aa (aa (aa (aa (aa true (aa true (Re.aj s&&Re.aj o&&!gQ s o))) (aa true (decide ([info].flatten.length<274877900000)&&true))) (aa (aa true (aa (decide ((eu s o).length=32)&&true) (decide ((eu s o).length=32)))) (decide ((eu s o).length<274877890000))))
  (aa (aa true (aa (aa true (decide ((S2.aq [info].flatten).length=32)&&true)) (decide ((S2.aq [info].flatten).length=32)))) (decide ((QA d p info).length≤274877906944)&&true))) (aa true (decide ((Kd.bG [] (eu s o)).length=32)&&true&&decide ((QA d p info).length≤65536)&&true&&true)))
  (decide (31+1≤(lbW s o d p info).length))) (true&&decide (0+32≤(lbW s o d p info).length))
theorem Kn {s o d p info:List Int} (hs:Re.aj s=true) (ho:Re.aj o=true) (hz:gQ s o=false) (hd:d.length=32) (hp:p.length=32) (hi:info.length<274877900000):kyO s o d p info=true:=by
 have hf:[info].flatten.length=info.length:=by simp
 have hc:(QA d p info).length=96:=by simp [QA,hd,hp,S2.bn]
 unfold kyO
 rw [hs,ho,hz,hf,hc,FJ,ir,S2.bn,Kd.eM,decide_eq_true hi]
 rfl
theorem QB (s o d p info:List Int):(br Tryz.prog (kyC false) 60 Tryz.f38 [.agg [.ints .u8 32 s],.agg [.ints .u8 32 o],.agg [.ints .u8 32 (aH 32 d)],.agg [.ints .u8 32 (aH 32 p)],.ro false .u8 info] []).map (fun x=>(x.1,x.2.2))=
  some (.aT [.agg [.ints .u8 32 (((lbW s o (aH 32 d) (aH 32 p) info).drop 0).take 32)],.nl .nilIface],kyO s o (aH 32 d) (aH 32 p) info):=by kernel_rfl
theorem QC (s o d p info:List Int):(br Tryz.prog (kyC true) 60 Tryz.f38 [.agg [.ints .u8 32 s],.agg [.ints .u8 32 o],.agg [.ints .u8 32 d],.agg [.ints .u8 32 p],.ro false .u8 info] []).map (fun x=>(x.1,x.2.2))=
  some (.aT [.agg [.ints .u8 32 gR],ec],aa true (aa true (Re.aj s&&Re.aj o&&gQ s o))):=by kernel_rfl
noncomputable def aci (b:Bool):List SV→Option (SV×List Blk×Bool)
 | [.agg [.ints .u8 32 s],.agg [.ints .u8 32 o],.agg [.ints .u8 32 d],.agg [.ints .u8 32 p],.ro false .u8 info]=>match b with
  |true=>some (.aT [.agg [.ints .u8 32 gR],ec],[],Re.aj s&&Re.aj o&&gQ s o)
  |false=>some (.aT [.agg [.ints .u8 32 (Km s o d p info)],.nl .nilIface],[],Re.aj s&&Re.aj o&&!gQ s o&&decide (d.length=32)&&decide (p.length=32)&&decide (info.length<274877900000))
 |_=>none
noncomputable def acj (b:Bool):Entry Tryz.prog:=.val 38 _ Tryz.func38 (by decide) rfl true 0 (aci b) fun vs v new e=>by
 unfold aci at e
 split at e
 ·rename_i s o d p info
  split at e
  ·simp only [Option.some.injEq,Prod.mk.injEq] at e
   obtain ⟨rfl,rfl,h⟩:=e
   exact aF (Kl true) 60 Tryz.func38 (QC s o d p info) (by rw [h];rfl) rfl
  ·simp only [Option.some.injEq,Prod.mk.injEq,Bool.and_eq_true,decide_eq_true_eq,Bool.not_eq_true'] at e
   obtain ⟨rfl,rfl,⟨⟨⟨⟨hs,ho⟩,hz⟩,hd⟩,hp⟩,hi⟩:=e
   have k:=aF (Kl false) 60 Tryz.func38 (QB s o d p info) (by rw [aG hd,aG hp];exact Kn hs ho hz hd hp hi) rfl
   rw [aG hd,aG hp,List.drop_zero,List.take_of_length_le (by rw [FJ];omega)] at k
   rw [Km,aD]
   exact k
 ·cases e
noncomputable def bsC (b:Bool) (x:Bool):bu:=mk (P:=Tryz.prog) [za,acj b,Ae.UF,Ae.vw,Sh.jf] [] fun i=>if i=17||i=21 then some x else if i=35 then some b else none
theorem WY (b x:Bool):ag Tryz.prog (bsC b x):=ah _ au.nil _ _
noncomputable def QD (p d info text:List Int):List (List Int):=[aJ d 9,Ae.fu (Km d p (aJ d 9) p info) (Ae.aI 0) info text]
noncomputable def Ko (p d info text:List Int):List Int:=aJ d 9++Ae.fu (Km d p (aJ d 9) p info) (Ae.aI 0) info text
theorem FK (p d info text:List Int):(QD p d info text).flatten=Ko p d info text:=by simp [QD,Ko]
theorem Kp (p d info text:List Int):(Ko p d info text).length=text.length+48:=by unfold Ko;rw [List.length_append,cM,Ae.fk];omega
noncomputable def bsO (p d info text:List Int):Bool:=
 aa (aa (aa (aa (aa (aa true (!decide ((info.length:Int)>65536))) (!decide ((text.length:Int)>65536))) (aa true (Re.aj d)))
  (aa true (Re.aj d&&Re.aj p&&!gQ d p&&decide ((aJ d 9).length=32)&&decide (p.length=32)&&decide (info.length<274877900000)))) (aa true (true&&decide (info.length≤1048576)&&decide (text.length≤1048576))))
  (aa (aa true (aa (aa true (decide ((aJ d 9).length=32)&&true)) (decide ((aJ d 9).length=32)))) (decide ((QD p d info text).flatten.length≤274877906944)&&true))
theorem WZ (p d info text:List Int):(br Tryz.prog (bsC false false) 60 Tryz.f12 [.agg [.ints .u8 32 p],.agg [.ints .u8 32 d],.ro false .u8 info,.ro false .u8 text] []).map (fun x=>(x.1,x.2.2))=
  some (.aT [.ro true .u8 (QD p d info text).flatten,.nl .nilIface],bsO p d info text):=by kernel_rfl
theorem alx {p d info text:List Int} (hd:Re.aj d=true) (hp:Re.aj p=true) (hz:gQ d p=false) (hi:info.length≤65536) (ht:text.length≤65536):ai Tryz.prog 12 [.agg [.ints .u8 32 p],.agg [.ints .u8 32 d],.ro false .u8 info,.ro false .u8 text] [] (.aT [.ro true .u8 (Ko p d info text),.nl .nilIface]) []:=by
 have k:=aF (WY false false) 60 Tryz.func12 (WZ p d info text) (by
  unfold bsO
  rw [FK,Kp,hd,hp,hz,cM,(Re.bI.1 hp).1,decide_eq_false (show ¬(info.length:Int)>65536 by omega),decide_eq_false (show ¬(text.length:Int)>65536 by omega),decide_eq_true (show info.length<274877900000 by omega),decide_eq_true (show info.length≤1048576 by omega),decide_eq_true (show text.length≤1048576 by omega),decide_eq_true (show text.length+48≤274877906944 by omega)]
  rfl) rfl
 rw [FK] at k
 exact k
noncomputable def boC (b c:Bool):bu:=mk (P:=Tryz.prog) [acj b,Ae.FG c,Ae.vw] [] fun i=>if i=14||i=19||i=23 then some false else if i=41 then some b else none
theorem DQ (b c:Bool):ag Tryz.prog (boC b c):=ah _ au.nil _ _
def tG (x:List Int):List Int:=((x.take 32).drop 0).take 32
theorem vB (x:List Int):tG x=x.take 32:=by
 unfold tG
 rw [List.drop_zero,List.take_of_length_le (by rw [List.length_take];omega)]
def boO (info x:List Int):Bool:=aa (aa (aa (aa (aa (aa true (!decide ((info.length:Int)>65536))) (!decide ((x.length:Int)<48))) (!decide ((x.length:Int)>65584))) (aa true (true&&decide ((32:Int)≤x.length)))) (decide (31+1≤(x.take 32).length))) (true&&decide (0+32≤(x.take 32).length))
theorem Bo {info x:List Int} (hi:info.length≤65536) (h0:48≤x.length) (h1:x.length≤65584):boO info x=true:=by
 have h:(x.take 32).length=32:=by rw [List.length_take];omega
 unfold boO
 rw [h,decide_eq_false (show ¬(info.length:Int)>65536 by omega),decide_eq_false (show ¬(x.length:Int)<48 by omega),decide_eq_false (show ¬(x.length:Int)>65584 by omega),decide_eq_true (show (32:Int)≤x.length by omega)]
 rfl
noncomputable def boP (s p info x:List Int) (o:Bool):Bool:=
 aa (aa (aa (boO info x) (aa true (Re.aj s&&Re.aj (tG x)&&!gQ s (tG x)&&decide ((tG x).length=32)&&decide (p.length=32)&&decide (info.length<274877900000)))) (aa true (aa true (true&&decide ((32:Int)≤x.length)))))
  (aa true (true&&decide (info.length≤1048592)&&decide ((x.drop 32).length≤1048592)&&o))
noncomputable def opK (s p info x:List Int):List Int:=Km s (tG x) (tG x) p info
section
variable (s p info x:List Int)
theorem Kq:(br Tryz.prog (boC true false) 60 Tryz.f19 [.agg [.ints .u8 32 s,.ints .u8 32 p],.ro false .u8 info,.ro false .u8 x] []).map (fun x=>(x.1,x.2.2))=
  some (.aT [.nl (.slice none 0 0),ec],aa (boO info x) (aa true (Re.aj s&&Re.aj (tG x)&&gQ s (tG x)))):=by kernel_rfl
theorem W3:(br Tryz.prog (boC false false) 60 Tryz.f19 [.agg [.ints .u8 32 s,.ints .u8 32 p],.ro false .u8 info,.ro false .u8 x] []).map (fun x=>(x.1,x.2.2))=
  some (Ae.yj,boP s p info x (!Ae.bJ (opK s p info x) (Ae.aI 0) info (x.drop 32))):=by kernel_rfl
theorem W5:(br Tryz.prog (boC false true) 60 Tryz.f19 [.agg [.ints .u8 32 s,.ints .u8 32 p],.ro false .u8 info,.ro false .u8 x] []).map (fun x=>(x.1,x.2.2))=
  some (.aT [.ro true .u8 (Ae.cn (opK s p info x) (Ae.aI 0) (x.drop 32)),.nl .nilIface],boP s p info x (Ae.bJ (opK s p info x) (Ae.aI 0) info (x.drop 32))):=by kernel_rfl
end
noncomputable def ack (u:Nat):List SV→Option (SV×List Blk×Bool)
 | [.agg [.ints .u8 32 s,.ints .u8 32 p],.ro false .u8 info,.ro false .u8 x]=>match u with
  |0=>some (.aT [.nl (.slice none 0 0),ec],[],decide (info.length≤65536)&&decide (48≤x.length)&&decide (x.length≤65584)&&(Re.aj s&&Re.aj (x.take 32)&&gQ s (x.take 32)))
  |1=>some (.aT [.ro true .u8 (Ae.cn (opK s p info x) (Ae.aI 0) (x.drop 32)),.nl .nilIface],[],decide (info.length≤65536)&&decide (48≤x.length)&&decide (x.length≤65584)&&(Re.aj s&&Re.aj p&&Re.aj (x.take 32)&&!gQ s (x.take 32)&&Ae.bJ (opK s p info x) (Ae.aI 0) info (x.drop 32)))
  |_=>some (Ae.yj,[],decide (info.length≤65536)&&decide (48≤x.length)&&decide (x.length≤65584)&&(Re.aj s&&Re.aj p&&Re.aj (x.take 32)&&!gQ s (x.take 32)&&!Ae.bJ (opK s p info x) (Ae.aI 0) info (x.drop 32)))
 |_=>none
theorem Bp {s p info x:List Int} {o:Bool} (hi:info.length≤65536) (h0:48≤x.length) (h1:x.length≤65584) (hs:Re.aj s=true) (hp:Re.aj p=true) (hx:Re.aj (x.take 32)=true) (hz:gQ s (x.take 32)=false) (ho:o=true):boP s p info x o=true:=by
 unfold boP
 rw [vB,Bo hi h0 h1,hs,hx,hz,(Re.bI.1 hx).1,(Re.bI.1 hp).1,ho,List.length_drop,decide_eq_true (show info.length<274877900000 by omega),decide_eq_true (show (32:Int)≤x.length by omega),decide_eq_true (show info.length≤1048592 by omega),decide_eq_true (show x.length-32≤1048592 by omega)]
 rfl
noncomputable def FG (u:Nat):Entry Tryz.prog:=.val 19 _ Tryz.func19 (by decide) rfl true 0 (ack u) fun vs v new e=>by
 unfold ack at e
 split at e
 ·rename_i s p info x
  split at e
  ·simp only [Option.some.injEq,Prod.mk.injEq,Bool.and_eq_true,decide_eq_true_eq] at e
   obtain ⟨rfl,rfl,⟨⟨hi,h0⟩,h1⟩,⟨hs,hx⟩,hz⟩:=e
   exact aF (DQ true false) 60 Tryz.func19 (Kq s p info x) (by rw [Bo hi h0 h1,vB,hs,hx,hz];rfl) rfl
  ·simp only [Option.some.injEq,Prod.mk.injEq,Bool.and_eq_true,decide_eq_true_eq,Bool.not_eq_true'] at e
   obtain ⟨rfl,rfl,⟨⟨hi,h0⟩,h1⟩,⟨⟨⟨hs,hp⟩,hx⟩,hz⟩,ho⟩:=e
   exact aF (DQ false true) 60 Tryz.func19 (W5 s p info x) (Bp hi h0 h1 hs hp hx hz ho) rfl
  ·simp only [Option.some.injEq,Prod.mk.injEq,Bool.and_eq_true,decide_eq_true_eq,Bool.not_eq_true'] at e
   obtain ⟨rfl,rfl,⟨⟨hi,h0⟩,h1⟩,⟨⟨⟨hs,hp⟩,hx⟩,hz⟩,ho⟩:=e
   exact aF (DQ false false) 60 Tryz.func19 (W3 s p info x) (Bp hi h0 h1 hs hp hx hz (by rw [ho];rfl)) rfl
 ·cases e
end Go.Proofs.YtibfpjeeanppjaaGreat.Bx
end
section
namespace Go.Proofs.YtibfpjeeanppjaaGreat.Bx
open Go Go.Sy Sh La
noncomputable def FL:List SV→Option (SV×List Blk×Bool)
 | [.ro false .u8 xs]=>some (.agg [.ints .u8 32 (S2.aq xs)],[],bE xs&&decide (xs.length<274877900000))
 |_=>none
noncomputable def zb:Entry Tryz.prog:=.val 78 _ Tryz.func78 (by decide) rfl true 0 FL fun vs v new e=>by
 unfold FL at e
 split at e
 ·simp only [Option.some.injEq,Prod.mk.injEq,Bool.and_eq_true,decide_eq_true_eq] at e
  obtain ⟨rfl,rfl,h1,h2⟩:=e
  rw [Q2.kH (Q2.Kr h1) h2]
  exact Q2.vC h2
 ·cases e
noncomputable def UP:List SV→Option (SV×List Blk×Bool)
 | [.agg [.ints .u8 32 sec],.str lb,.ro false .u8 ctx,.int .i64 n]=>some (.aT [.ro true .u8 (aH 32 (Kd.lM sec Ik ctx 32)),.bool true],[],decide (lb=Ik)&&decide (n=32)&&decide (sec.length=32)&&bE ctx&&decide (ctx.length≤65536))
 |_=>none
noncomputable def acm:Entry Tryz.prog:=.val 79 _ Tryz.func79 (by decide) rfl true 0 UP fun vs v new e=>by
 unfold UP at e
 split at e
 ·simp only [Option.some.injEq,Prod.mk.injEq,Bool.and_eq_true,decide_eq_true_eq] at e
  obtain ⟨rfl,rfl,⟨⟨⟨rfl,rfl⟩,h1⟩,h2⟩,h3⟩:=e
  rw [aG (Kd.pQ _ _ _ _)]
  exact Q2.Il h1 h2 h3
 ·cases e
noncomputable def rkC:bu:=mk (P:=Tryz.prog) [zb,Q2.acn,acm] [] fun i=>if i=19||i=21||i=23 then some true else none
theorem W6:ag Tryz.prog rkC:=ah _ au.nil _ _
noncomputable def PU (d p info:List Int):List Int:=d++p++S2.aq info
theorem W7 (d p info:List Int):PU d p info=QA d p info:=by simp [PU,QA]
noncomputable def rkO (c d p info:List Int):Bool:=
 aa (aa (aa (aa true (aa true (bE info&&decide (info.length<274877900000)))) (decide ((S2.aq info).length=32)&&true)) (aa true (bE c&&true)))
  (aa (aa true (aa true (aa (decide ((PU d p info).length=0+32+32+32)&&true) (decide ((PU d p info).length=0+32+32+32))))) (true&&decide ((Kd.bG [] c).length=32)&&bE (PU d p info)&&decide ((PU d p info).length≤65536)))
theorem W8 (c d p info:List Int):(br Tryz.prog rkC 200 Tryz.f44 [.agg [.ints .u8 32 (aH 32 c)],.agg [.ints .u8 32 (aH 32 d)],.agg [.ints .u8 32 (aH 32 p)],.ro false .u8 info] []).map (fun x=>(x.1,x.2.2))=
  some (.agg [.ints .u8 32 (aH 32 (Kd.lM (Kd.bG [] (aH 32 c)) Ik (PU (aH 32 d) (aH 32 p) info) 32))],rkO (aH 32 c) (aH 32 d) (aH 32 p) info):=by kernel_rfl
theorem uM {a b:List Int} (ha:bE a=true) (hb:bE b=true):bE (a++b)=true:=by
 unfold bE at*
 rw [List.all_append,ha,hb];rfl
theorem kg {l:List Int} (h:∀x∈l,0≤x∧x<256):bE l=true:=by
 unfold bE
 rw [List.all_eq_true]
 intro x hx
 simpa using h x hx
theorem lN {l:List Int} (h:Re.aj l=true):bE l=true:=kg fun x hx=>Fe.nk.1 (List.all_eq_true.1 (Re.bI.1 h).2 x hx)
theorem QE {c d p info:List Int} (hc:Re.aj c=true) (hd:Re.aj d=true) (hp:Re.aj p=true) (hi:bE info=true) (hl:info.length<274877900000):ai Tryz.prog 44 [.agg [.ints .u8 32 c],.agg [.ints .u8 32 d],.agg [.ints .u8 32 p],.ro false .u8 info] [] (.agg [.ints .u8 32 (Kd.lM (Kd.bG [] c) Ik (QA d p info) 32)]) []:=by
 have k:=aF W6 200 Tryz.func44 (W8 c d p info) (by
  have h1:=(Re.bI.1 hd).1
  have h2:=(Re.bI.1 hp).1
  rw [aG (Re.bI.1 hc).1,aG h1,aG h2]
  have hlen:(PU d p info).length=96:=by rw [PU,List.length_append,List.length_append,h1,h2,S2.bn]
  have hu:bE (PU d p info)=true:=uM (uM (lN hd) (lN hp)) (kg (S2.kI _))
  unfold rkO
  rw [hlen,hu,hi,lN hc,S2.bn,Kd.eM,decide_eq_true hl]
  rfl) rfl
 rw [aG (Re.bI.1 hc).1,aG (Re.bI.1 hd).1,aG (Re.bI.1 hp).1,aG (Kd.pQ _ _ _ _),W7] at k
 exact k
noncomputable def aib (c d p info:List Int):List Int:=Kd.lM (Kd.bG [] c) Ik (QA d p info) 32
noncomputable def UQ:List SV→Option (SV×List Blk×Bool)
 | [.agg [.ints .u8 32 c],.agg [.ints .u8 32 d],.agg [.ints .u8 32 p],.ro false .u8 info]=>some (.agg [.ints .u8 32 (aib c d p info)],[],Re.aj c&&Re.aj d&&Re.aj p&&bE info&&decide (info.length<274877900000))
 |_=>none
noncomputable def aco:Entry Tryz.prog:=.val 44 _ Tryz.func44 (by decide) rfl true 0 UQ fun vs v new e=>by
 unfold UQ at e
 split at e
 ·simp only [Option.some.injEq,Prod.mk.injEq,Bool.and_eq_true,decide_eq_true_eq] at e
  obtain ⟨rfl,rfl,⟨⟨⟨h1,h2⟩,h3⟩,h4⟩,h5⟩:=e
  exact QE h1 h2 h3 h4 h5
 ·cases e
end Go.Proofs.YtibfpjeeanppjaaGreat.Bx
end
