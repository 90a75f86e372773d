/- This file holds the texts BxA, BxB, a section each. No conditions beyond those in the theorems. -/
import Derived.Test.YtibfpjeeanppjaaGreatULaF
import Derived.Test.YtibfpjeeanppjaaGreatUKdD
import Derived.Test.YtibfpjeeanppjaaGreatUAeF
import Derived.Test.YtibfpjeeanppjaaGreatUKdG
import Derived.Test.YtibfpjeeanppjaaGreatUR4L
set_option linter.all false
set_option maxRecDepth 100000
section
namespace Go.Proofs.YtibfpjeeanppjaaGreat.Bx
open Go Go.Sy Sh La
noncomputable def R5:List SV→Option (SV×List Blk×Bool)
 | [.nl (.slice none 0 0),.ro false .u8 m]=>some (.agg [.ints .u8 32 (Kd.ej [] m)],[],decide (m.length<274877890000))
 |_=>none
noncomputable def Y7:Entry Tryz.prog:=.val 70 _ Tryz.func70 (by decide) rfl true 0 R5 fun vs v new e=>by
 unfold R5 at e
 split at e
 ·rename_i m
  simp only [Option.some.injEq,Prod.mk.injEq,decide_eq_true_eq] at e
  obtain ⟨rfl,rfl,h⟩:=e
  have hm:[m].flatten=m:=by simp
  have k:=aP Kd.Um 60 Tryz.func70 (Kd.zF [] m) (by rw [hm,decide_eq_true h];rfl) rfl
  rw [hm] at k
  exact aj.conv k ⟨VE.BH _ _,VE.refl _,trivial⟩ trivial (VE.refl _) trivial
 ·cases e
noncomputable def kyC (b:Bool):bK:=mk (P:=Tryz.prog) [Un b,S2.BI,Y7,Kd.Uo,Sh.js] [] fun i=>if i=23 then some b else none
theorem IQ (b:Bool):ag Tryz.prog (kyC b):=ai _ aF.nil _ _
def zG:List Int:=[98,111,120]
noncomputable def IS (d p info:List Int):List Int:=[d,p,S2.bn [info].flatten].flatten
noncomputable def Oa (s o d p info:List Int):List Int:=Kd.ij (Kd.ej [] (fK s o)) zG (IS d p info) 32
noncomputable def pL (s o d p info:List Int):List Int:=gz (Oa s o d p info)
theorem Du (s o d p info:List Int):(Oa s o d p info).length=32:=Kd.kP _ _ _ _
noncomputable def kyO (s o d p info:List Int):Bool:=
 aa (aa (aa (aa (aa (aa (aa true (aa true (Re.aE s&&Re.aE o&&!jn s o))) (aa true (decide ([info].flatten.length<274877900000)&&true))) (aa (aa true (aa (decide ((fK s o).length=32)&&true) (decide ((fK s o).length=32)))) (decide ((fK s o).length<274877890000))))
  (aa (aa true (aa (aa true (decide ((S2.bn [info].flatten).length=32)&&true)) (decide ((S2.bn [info].flatten).length=32)))) (decide ((IS d p info).length≤274877906944)&&true))) (aa true (decide ((Kd.ej [] (fK s o)).length=32)&&true&&decide ((IS d p info).length≤65536)&&true&&true)))
  (decide (31+1≤(Oa s o d p info).length))) (true&&decide (0+32≤(Oa s o d p info).length))
theorem IT {s o d p info:List Int} (hs:Re.aE s=true) (ho:Re.aE o=true) (hz:jn s o=false) (hd:d.length=32) (hp:p.length=32) (hi:info.length<274877900000):kyO s o d p info=true:=by
 have hf:[info].flatten.length=info.length:=by simp
 have hc:(IS d p info).length=96:=by simp [IS,hd,hp,S2.eD]
 unfold kyO
 rw [hs,ho,hz,hf,hc,Du,pM,S2.eD,Kd.mc,decide_eq_true hi]
 rfl
theorem Ob (s o d p info:List Int):(bE Tryz.prog (kyC false) 60 Tryz.f38 [.agg [.ints .u8 32 s],.agg [.ints .u8 32 o],.agg [.ints .u8 32 (aO 32 d)],.agg [.ints .u8 32 (aO 32 p)],.ro false .u8 info] []).map (fun x=>(x.1,x.2.2))=
  some (.bk [.agg [.ints .u8 32 (((Oa s o (aO 32 d) (aO 32 p) info).drop 0).take 32)],.nl .nilIface],kyO s o (aO 32 d) (aO 32 p) info):=by kernel_rfl
theorem Oc (s o d p info:List Int):(bE Tryz.prog (kyC true) 60 Tryz.f38 [.agg [.ints .u8 32 s],.agg [.ints .u8 32 o],.agg [.ints .u8 32 d],.agg [.ints .u8 32 p],.ro false .u8 info] []).map (fun x=>(x.1,x.2.2))=
  some (.bk [.agg [.ints .u8 32 gB],me],aa true (aa true (Re.aE s&&Re.aE o&&jn s o))):=by kernel_rfl
noncomputable def Y8 (b:Bool):List SV→Option (SV×List Blk×Bool)
 | [.agg [.ints .u8 32 s],.agg [.ints .u8 32 o],.agg [.ints .u8 32 d],.agg [.ints .u8 32 p],.ro false .u8 info]=>match b with
  |true=>some (.bk [.agg [.ints .u8 32 gB],me],[],Re.aE s&&Re.aE o&&jn s o)
  |false=>some (.bk [.agg [.ints .u8 32 (pL s o d p info)],.nl .nilIface],[],Re.aE s&&Re.aE o&&!jn s o&&decide (d.length=32)&&decide (p.length=32)&&decide (info.length<274877900000))
 |_=>none
noncomputable def Up (b:Bool):Entry Tryz.prog:=.val 38 _ Tryz.func38 (by decide) rfl true 0 (Y8 b) fun vs v new e=>by
 unfold Y8 at e
 split at e
 ·rename_i s o d p info
  split at e
  ·simp only [Option.some.injEq,Prod.mk.injEq] at e
   obtain ⟨rfl,rfl,h⟩:=e
   exact aP (IQ true) 60 Tryz.func38 (Oc s o d p info) (by rw [h];rfl) rfl
  ·simp only [Option.some.injEq,Prod.mk.injEq,Bool.and_eq_true,decide_eq_true_eq,Bool.not_eq_true'] at e
   obtain ⟨rfl,rfl,⟨⟨⟨⟨hs,ho⟩,hz⟩,hd⟩,hp⟩,hi⟩:=e
   have k:=aP (IQ false) 60 Tryz.func38 (Ob s o d p info) (by rw [aJ hd,aJ hp];exact IT hs ho hz hd hp hi) rfl
   rw [aJ hd,aJ hp,List.drop_zero,List.take_of_length_le (by rw [Du];omega)] at k
   rw [pL,aq]
   exact k
 ·cases e
noncomputable def bsC (b:Bool) (x:Bool):bK:=mk (P:=Tryz.prog) [Dv,Up b,Ae.RO,Ae.Bz,Sh.js] [] fun i=>if i=17||i=21 then some x else if i=35 then some b else none
theorem IU (b x:Bool):ag Tryz.prog (bsC b x):=ai _ aF.nil _ _
noncomputable def zH (p d info text:List Int):List (List Int):=[bP d 9,Ae.eW (pL d p (bP d 9) p info) (Ae.di 0) info text]
noncomputable def gl (p d info text:List Int):List Int:=bP d 9++Ae.eW (pL d p (bP d 9) p info) (Ae.di 0) info text
theorem sW (p d info text:List Int):(zH p d info text).flatten=gl p d info text:=by simp [zH,gl]
theorem mg (p d info text:List Int):(gl p d info text).length=text.length+48:=by unfold gl;rw [List.length_append,gT,Ae.iT];omega
noncomputable def Y9 (p d info text:List Int):Bool:=
 aa (aa (aa (aa (aa (aa true (!decide ((info.length:Int)>65536))) (!decide ((text.length:Int)>65536))) (aa true (Re.aE d)))
  (aa true (Re.aE d&&Re.aE p&&!jn d p&&decide ((bP d 9).length=32)&&decide (p.length=32)&&decide (info.length<274877900000)))) (aa true (true&&decide (info.length≤1048576)&&decide (text.length≤1048576))))
  (aa (aa true (aa (aa true (decide ((bP d 9).length=32)&&true)) (decide ((bP d 9).length=32)))) (decide ((zH p d info text).flatten.length≤274877906944)&&true))
theorem Uq (p d info text:List Int):(bE Tryz.prog (bsC false false) 60 Tryz.f12 [.agg [.ints .u8 32 p],.agg [.ints .u8 32 d],.ro false .u8 info,.ro false .u8 text] []).map (fun x=>(x.1,x.2.2))=
  some (.bk [.ro true .u8 (zH p d info text).flatten,.nl .nilIface],Y9 p d info text):=by kernel_rfl
theorem Za {p d info text:List Int} (hd:Re.aE d=true) (hp:Re.aE p=true) (hz:jn d p=false) (hi:info.length≤65536) (ht:text.length≤65536):aj Tryz.prog 12 [.agg [.ints .u8 32 p],.agg [.ints .u8 32 d],.ro false .u8 info,.ro false .u8 text] [] (.bk [.ro true .u8 (gl p d info text),.nl .nilIface]) []:=by
 have k:=aP (IU false false) 60 Tryz.func12 (Uq p d info text) (by
  unfold Y9
  rw [sW,mg,hd,hp,hz,gT,(Re.bQ.1 hp).1,decide_eq_false (show ¬(info.length:Int)>65536 by omega),decide_eq_false (show ¬(text.length:Int)>65536 by omega),decide_eq_true (show info.length<274877900000 by omega),decide_eq_true (show info.length≤1048576 by omega),decide_eq_true (show text.length≤1048576 by omega),decide_eq_true (show text.length+48≤274877906944 by omega)]
  rfl) rfl
 rw [sW] at k
 exact k
theorem Ur (p d info text:List Int):(bE Tryz.prog (bsC true false) 60 Tryz.f12 [.agg [.ints .u8 32 p],.agg [.ints .u8 32 d],.ro false .u8 info,.ro false .u8 text] []).map (fun x=>(x.1,x.2.2))=
  some (.bk [.nl (.slice none 0 0),me],aa (aa (aa (aa true (!decide ((info.length:Int)>65536))) (!decide ((text.length:Int)>65536))) (aa true (Re.aE d))) (aa true (Re.aE d&&Re.aE p&&jn d p))):=by kernel_rfl
noncomputable def boC (b c:Bool):bK:=mk (P:=Tryz.prog) [Up b,Ae.RQ c,Ae.Bz] [] fun i=>if i=14||i=19||i=23 then some false else if i=41 then some b else none
theorem qF (b c:Bool):ag Tryz.prog (boC b c):=ai _ aF.nil _ _
def Od (x:List Int):List Int:=((x.take 32).drop 0).take 32
theorem tL (x:List Int):Od x=x.take 32:=by
 unfold Od
 rw [List.drop_zero,List.take_of_length_le (by rw [List.length_take];omega)]
def boO (info x:List Int):Bool:=aa (aa (aa (aa (aa (aa true (!decide ((info.length:Int)>65536))) (!decide ((x.length:Int)<48))) (!decide ((x.length:Int)>65584))) (aa true (true&&decide ((32:Int)≤x.length)))) (decide (31+1≤(x.take 32).length))) (true&&decide (0+32≤(x.take 32).length))
theorem tM {info x:List Int} (hi:info.length≤65536) (h0:48≤x.length) (h1:x.length≤65584):boO info x=true:=by
 have h:(x.take 32).length=32:=by rw [List.length_take];omega
 unfold boO
 rw [h,decide_eq_false (show ¬(info.length:Int)>65536 by omega),decide_eq_false (show ¬(x.length:Int)<48 by omega),decide_eq_false (show ¬(x.length:Int)>65584 by omega),decide_eq_true (show (32:Int)≤x.length by omega)]
 rfl
noncomputable def boP (s p info x:List Int) (o:Bool):Bool:=
 aa (aa (aa (boO info x) (aa true (Re.aE s&&Re.aE (Od x)&&!jn s (Od x)&&decide ((Od x).length=32)&&decide (p.length=32)&&decide (info.length<274877900000)))) (aa true (aa true (true&&decide ((32:Int)≤x.length)))))
  (aa true (true&&decide (info.length≤1048592)&&decide ((x.drop 32).length≤1048592)&&o))
noncomputable def Bi (s p info x:List Int):List Int:=pL s (Od x) (Od x) p info
section
variable (s p info x:List Int)
theorem zI:(bE Tryz.prog (boC true false) 60 Tryz.f19 [.agg [.ints .u8 32 s,.ints .u8 32 p],.ro false .u8 info,.ro false .u8 x] []).map (fun x=>(x.1,x.2.2))=
  some (.bk [.nl (.slice none 0 0),me],aa (boO info x) (aa true (Re.aE s&&Re.aE (Od x)&&jn s (Od x)))):=by kernel_rfl
theorem IV:(bE Tryz.prog (boC false false) 60 Tryz.f19 [.agg [.ints .u8 32 s,.ints .u8 32 p],.ro false .u8 info,.ro false .u8 x] []).map (fun x=>(x.1,x.2.2))=
  some (Ae.wj,boP s p info x (!Ae.gR (Bi s p info x) (Ae.di 0) info (x.drop 32))):=by kernel_rfl
theorem IW:(bE Tryz.prog (boC false true) 60 Tryz.f19 [.agg [.ints .u8 32 s,.ints .u8 32 p],.ro false .u8 info,.ro false .u8 x] []).map (fun x=>(x.1,x.2.2))=
  some (.bk [.ro true .u8 (Ae.rN (Bi s p info x) (Ae.di 0) (x.drop 32)),.nl .nilIface],boP s p info x (Ae.gR (Bi s p info x) (Ae.di 0) info (x.drop 32))):=by kernel_rfl
end
noncomputable def FK (u:Nat):List SV→Option (SV×List Blk×Bool)
 | [.agg [.ints .u8 32 s,.ints .u8 32 p],.ro false .u8 info,.ro false .u8 x]=>match u with
  |0=>some (.bk [.nl (.slice none 0 0),me],[],decide (info.length≤65536)&&decide (48≤x.length)&&decide (x.length≤65584)&&(Re.aE s&&Re.aE (x.take 32)&&jn s (x.take 32)))
  |1=>some (.bk [.ro true .u8 (Ae.rN (Bi s p info x) (Ae.di 0) (x.drop 32)),.nl .nilIface],[],decide (info.length≤65536)&&decide (48≤x.length)&&decide (x.length≤65584)&&(Re.aE s&&Re.aE p&&Re.aE (x.take 32)&&!jn s (x.take 32)&&Ae.gR (Bi s p info x) (Ae.di 0) info (x.drop 32)))
  |_=>some (Ae.wj,[],decide (info.length≤65536)&&decide (48≤x.length)&&decide (x.length≤65584)&&(Re.aE s&&Re.aE p&&Re.aE (x.take 32)&&!jn s (x.take 32)&&!Ae.gR (Bi s p info x) (Ae.di 0) info (x.drop 32)))
 |_=>none
theorem pN {s p info x:List Int} {o:Bool} (hi:info.length≤65536) (h0:48≤x.length) (h1:x.length≤65584) (hs:Re.aE s=true) (hp:Re.aE p=true) (hx:Re.aE (x.take 32)=true) (hz:jn s (x.take 32)=false) (ho:o=true):boP s p info x o=true:=by
 unfold boP
 rw [tL,tM hi h0 h1,hs,hx,hz,(Re.bQ.1 hx).1,(Re.bQ.1 hp).1,ho,List.length_drop,decide_eq_true (show info.length<274877900000 by omega),decide_eq_true (show (32:Int)≤x.length by omega),decide_eq_true (show info.length≤1048592 by omega),decide_eq_true (show x.length-32≤1048592 by omega)]
 rfl
noncomputable def RQ (u:Nat):Entry Tryz.prog:=.val 19 _ Tryz.func19 (by decide) rfl true 0 (FK u) fun vs v new e=>by
 unfold FK at e
 split at e
 ·rename_i s p info x
  split at e
  ·simp only [Option.some.injEq,Prod.mk.injEq,Bool.and_eq_true,decide_eq_true_eq] at e
   obtain ⟨rfl,rfl,⟨⟨hi,h0⟩,h1⟩,⟨hs,hx⟩,hz⟩:=e
   exact aP (qF true false) 60 Tryz.func19 (zI s p info x) (by rw [tM hi h0 h1,tL,hs,hx,hz];rfl) rfl
  ·simp only [Option.some.injEq,Prod.mk.injEq,Bool.and_eq_true,decide_eq_true_eq,Bool.not_eq_true'] at e
   obtain ⟨rfl,rfl,⟨⟨hi,h0⟩,h1⟩,⟨⟨⟨hs,hp⟩,hx⟩,hz⟩,ho⟩:=e
   exact aP (qF false true) 60 Tryz.func19 (IW s p info x) (pN hi h0 h1 hs hp hx hz ho) rfl
  ·simp only [Option.some.injEq,Prod.mk.injEq,Bool.and_eq_true,decide_eq_true_eq,Bool.not_eq_true'] at e
   obtain ⟨rfl,rfl,⟨⟨hi,h0⟩,h1⟩,⟨⟨⟨hs,hp⟩,hx⟩,hz⟩,ho⟩:=e
   exact aP (qF false false) 60 Tryz.func19 (IV s p info x) (pN hi h0 h1 hs hp hx hz (by rw [ho];rfl)) rfl
 ·cases e
end Go.Proofs.YtibfpjeeanppjaaGreat.Bx
end
section
namespace Go.Proofs.YtibfpjeeanppjaaGreat.Bx
open Go Go.Sy Sh La
noncomputable def Dw:List SV→Option (SV×List Blk×Bool)
 | [.ro false .u8 xs]=>some (.agg [.ints .u8 32 (S2.bn xs)],[],dD xs&&decide (xs.length<274877900000))
 |_=>none
noncomputable def Oe:Entry Tryz.prog:=.val 78 _ Tryz.func78 (by decide) rfl true 0 Dw fun vs v new e=>by
 unfold Dw at e
 split at e
 ·simp only [Option.some.injEq,Prod.mk.injEq,Bool.and_eq_true,decide_eq_true_eq] at e
  obtain ⟨rfl,rfl,h1,h2⟩:=e
  rw [Q2.jY (Q2.IX h1) h2]
  exact Q2.tN h2
 ·cases e
noncomputable def R6:List SV→Option (SV×List Blk×Bool)
 | [.agg [.ints .u8 32 sec],.str lb,.ro false .u8 ctx,.int .i64 n]=>some (.bk [.ro true .u8 (aO 32 (Kd.ij sec zG ctx 32)),.bool true],[],decide (lb=zG)&&decide (n=32)&&decide (sec.length=32)&&dD ctx&&decide (ctx.length≤65536))
 |_=>none
noncomputable def Zb:Entry Tryz.prog:=.val 79 _ Tryz.func79 (by decide) rfl true 0 R6 fun vs v new e=>by
 unfold R6 at e
 split at e
 ·simp only [Option.some.injEq,Prod.mk.injEq,Bool.and_eq_true,decide_eq_true_eq] at e
  obtain ⟨rfl,rfl,⟨⟨⟨rfl,rfl⟩,h1⟩,h2⟩,h3⟩:=e
  rw [aJ (Kd.kP _ _ _ _)]
  exact Q2.FL h1 h2 h3
 ·cases e
noncomputable def rkC:bK:=mk (P:=Tryz.prog) [Oe,Q2.Zc,Zb] [] fun i=>if i=19||i=21||i=23 then some true else none
theorem Us:ag Tryz.prog rkC:=ai _ aF.nil _ _
noncomputable def Nm (d p info:List Int):List Int:=d++p++S2.bn info
theorem Ut (d p info:List Int):Nm d p info=IS d p info:=by simp [Nm,IS]
noncomputable def rkO (c d p info:List Int):Bool:=
 aa (aa (aa (aa true (aa true (dD info&&decide (info.length<274877900000)))) (decide ((S2.bn info).length=32)&&true)) (aa true (dD c&&true)))
  (aa (aa true (aa true (aa (decide ((Nm d p info).length=0+32+32+32)&&true) (decide ((Nm d p info).length=0+32+32+32))))) (true&&decide ((Kd.ej [] c).length=32)&&dD (Nm d p info)&&decide ((Nm d p info).length≤65536)))
theorem Uu (c d p info:List Int):(bE Tryz.prog rkC 200 Tryz.f44 [.agg [.ints .u8 32 (aO 32 c)],.agg [.ints .u8 32 (aO 32 d)],.agg [.ints .u8 32 (aO 32 p)],.ro false .u8 info] []).map (fun x=>(x.1,x.2.2))=
  some (.agg [.ints .u8 32 (aO 32 (Kd.ij (Kd.ej [] (aO 32 c)) zG (Nm (aO 32 d) (aO 32 p) info) 32))],rkO (aO 32 c) (aO 32 d) (aO 32 p) info):=by kernel_rfl
theorem Dx {a b:List Int} (ha:dD a=true) (hb:dD b=true):dD (a++b)=true:=by
 unfold dD at*
 rw [List.all_append,ha,hb];rfl
theorem tP {l:List Int} (h:∀x∈l,0≤x∧x<256):dD l=true:=by
 unfold dD
 rw [List.all_eq_true]
 intro x hx
 simpa using h x hx
theorem xu {l:List Int} (h:Re.aE l=true):dD l=true:=tP fun x hx=>Fe.mh.1 (List.all_eq_true.1 (Re.bQ.1 h).2 x hx)
theorem Of {c d p info:List Int} (hc:Re.aE c=true) (hd:Re.aE d=true) (hp:Re.aE p=true) (hi:dD info=true) (hl:info.length<274877900000):aj Tryz.prog 44 [.agg [.ints .u8 32 c],.agg [.ints .u8 32 d],.agg [.ints .u8 32 p],.ro false .u8 info] [] (.agg [.ints .u8 32 (Kd.ij (Kd.ej [] c) zG (IS d p info) 32)]) []:=by
 have k:=aP Us 200 Tryz.func44 (Uu c d p info) (by
  have h1:=(Re.bQ.1 hd).1
  have h2:=(Re.bQ.1 hp).1
  rw [aJ (Re.bQ.1 hc).1,aJ h1,aJ h2]
  have hlen:(Nm d p info).length=96:=by rw [Nm,List.length_append,List.length_append,h1,h2,S2.eD]
  have hu:dD (Nm d p info)=true:=Dx (Dx (xu hd) (xu hp)) (tP (S2.ni _))
  unfold rkO
  rw [hlen,hu,hi,xu hc,S2.eD,Kd.mc,decide_eq_true hl]
  rfl) rfl
 rw [aJ (Re.bQ.1 hc).1,aJ (Re.bQ.1 hd).1,aJ (Re.bQ.1 hp).1,aJ (Kd.kP _ _ _ _),Ut] at k
 exact k
noncomputable def xw (c d p info:List Int):List Int:=Kd.ij (Kd.ej [] c) zG (IS d p info) 32
theorem Og (s o d p info:List Int):xw (fK s o) d p info=pL s o d p info:=by rw [pL,aq];rfl
noncomputable def R7:List SV→Option (SV×List Blk×Bool)
 | [.agg [.ints .u8 32 c],.agg [.ints .u8 32 d],.agg [.ints .u8 32 p],.ro false .u8 info]=>some (.agg [.ints .u8 32 (xw c d p info)],[],Re.aE c&&Re.aE d&&Re.aE p&&dD info&&decide (info.length<274877900000))
 |_=>none
noncomputable def Zd:Entry Tryz.prog:=.val 44 _ Tryz.func44 (by decide) rfl true 0 R7 fun vs v new e=>by
 unfold R7 at e
 split at e
 ·simp only [Option.some.injEq,Prod.mk.injEq,Bool.and_eq_true,decide_eq_true_eq] at e
  obtain ⟨rfl,rfl,⟨⟨⟨h1,h2⟩,h3⟩,h4⟩,h5⟩:=e
  exact Of h1 h2 h3 h4 h5
 ·cases e
end Go.Proofs.YtibfpjeeanppjaaGreat.Bx
end
