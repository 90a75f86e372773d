/- This file holds the texts BxC, BxD, a section each. No conditions beyond those in the theorems. -/
import Derived.Test.YtibfpjeeanppjaaGreatUBxB
set_option linter.all false
set_option maxRecDepth 100000
section
namespace Go.Proofs.YtibfpjeeanppjaaGreat.Bx
open Go Go.Sy Sh La
noncomputable def rsC (b:Bool):bK:=mk (P:=Tryz.prog) [Oh b,zJ,Zd,R4.Oi,R4.Uv] [] fun i=>if i=18||i=22 then some false else none
theorem IY (b:Bool):ag Tryz.prog (rsC b):=ai _ aF.nil _ _
theorem IZ (c d p info:List Int):(xw c d p info).length=32:=Kd.kP _ _ _ _
theorem Oj (c d p info:List Int):dD (xw c d p info)=true:=by
 unfold xw Kd.ij
 rw [Q2.pO]
 exact tP (Kd.Ok _ _)
noncomputable def Ol (p d info text:List Int):List Int:=Ae.eW (xw (fK d p) (bP d 9) p info) (Ae.di 0) info text
noncomputable def rsO (p d info text:List Int):Bool:=
 aa (aa (aa (aa (aa (aa (aa (aa true (!decide ((info.length:Int)>65536))) (!decide ((text.length:Int)>65536))) (aa true (Re.aE d&&Re.aE p&&!jn d p))) (aa true (Re.aE d))) (aa true (Re.aE (fK d p)&&Re.aE (bP d 9)&&Re.aE p&&dD info&&decide (info.length<274877900000))))
  (aa true (decide ((xw (fK d p) (bP d 9) p info).length=32)&&R4.iH (xw (fK d p) (bP d 9) p info)&&true&&true&&R4.iH info&&decide (info.length≤1048576)&&decide (text.length≤1048576)))) (decide ((bP d 9).length=32)&&true))
  (aa (aa (aa true (decide ((bP d 9).length=0+32)&&true)) (decide ((bP d 9).length=0+32))) (decide (0+32+(Ol p d info text).length≤2^38)))
theorem Uw (p d info text:List Int):(bE Tryz.prog (rsC false) 60 Tryz.f13 [.agg [.ints .u8 32 p],.agg [.ints .u8 32 d],.ro false .u8 info,.ro false .u8 text] []).map (fun x=>(x.1,x.2.1.take 5,x.2.2))=
  some (.bk [.sl 4 0 0 1 (0+32+(Ol p d info text).length) (0+32+(Ol p d info text).length) false true,.int .i64 0],[.b [.ints .u8 32 p],.b [.ints .u8 32 d],.b [.ints .u8 32 (fK d p)],.b [.ints .u8 32 (bP d 9)],.b [.ints .u8 (0+32+(Ol p d info text).length) (bP d 9++Ol p d info text)]],rsO p d info text):=by kernel_rfl
theorem Ux (p d info text:List Int):(bE Tryz.prog (rsC true) 60 Tryz.f13 [.agg [.ints .u8 32 p],.agg [.ints .u8 32 d],.ro false .u8 info,.ro false .u8 text] []).map (fun x=>(x.1,x.2.2))=
  some (.bk [.nl (.slice none 0 0),.int .i64 4],aa (aa (aa true (!decide ((info.length:Int)>65536))) (!decide ((text.length:Int)>65536))) (aa true (Re.aE d&&Re.aE p&&jn d p))):=by kernel_rfl
theorem Uy (p d info text:List Int):bP d 9++Ol p d info text=gl p d info text:=by unfold Ol gl;rw [Og]
theorem Dy (p d info text:List Int):(Ol p d info text).length=text.length+16:=Ae.iT _ _ _ _
theorem I0 {p d info text:List Int} (hd:Re.aE d=true) (hp:Re.aE p=true) (hz:jn d p=false) (hi:info.length≤65536) (ht:text.length≤65536) (ub:dD info=true):rsO p d info text=true:=by
 have e1:R4.iH (xw (fK d p) (bP d 9) p info)=true:=Oj _ _ _ _
 have e2:R4.iH info=true:=ub
 unfold rsO
 rw [e1,e2,Dy,IZ,gT,hd,hp,hz,ub,Om,mj,decide_eq_false (show ¬(info.length:Int)>65536 by omega),decide_eq_false (show ¬(text.length:Int)>65536 by omega),decide_eq_true (show info.length<274877900000 by omega),decide_eq_true (show info.length≤1048576 by omega),decide_eq_true (show text.length≤1048576 by omega),decide_eq_true (show 0+32+(text.length+16)≤2^38 by omega)]
 rfl
theorem I1 {p d info text:List Int} (hd:Re.aE d=true) (hp:Re.aE p=true) (hz:jn d p=false) (hi:info.length≤65536) (ht:text.length≤65536) (ub:dD info=true):aj Tryz.prog 13 [.agg [.ints .u8 32 p],.agg [.ints .u8 32 d],.ro false .u8 info,.ro false .u8 text] [] (.bk [.sl 0 0 0 1 (text.length+48) (text.length+48) false true,.int .i64 0]) [.b [.ints .u8 (text.length+48) (gl p d info text)]]:=by
 have hr:=Uw p d info text
 have ho:=I0 hd hp hz hi ht ub
 have hN:0+32+(Ol p d info text).length=text.length+48:=by rw [Dy];omega
 rw [hN,Uy] at hr
 generalize gl p d info text=l at hr ⊢
 generalize text.length+48=N at hr ⊢
 have k:=dF (IY false) 60 Tryz.func13 5 (by simp) hr ho rfl rfl
 exact aj.R8 [4] k (by kernel_rfl)
noncomputable def I2:List SV→Option (SV×List Blk×Bool)
 | [.agg [.ints .u8 32 p],.agg [.ints .u8 32 d],.ro false .u8 info,.ro false .u8 text]=>some (.bk [.sl 0 0 0 1 (text.length+48) (text.length+48) false true,.int .i64 0],[.b [.ints .u8 (text.length+48) (gl p d info text)]],Re.aE d&&Re.aE p&&!jn d p&&decide (info.length≤65536)&&decide (text.length≤65536)&&dD info)
 |_=>none
noncomputable def Uz:Entry Tryz.prog:=.val 13 _ Tryz.func13 (by decide) rfl true 1 I2 fun vs v new e=>by
 unfold I2 at e
 split at e
 ·simp only [Option.some.injEq,Prod.mk.injEq,Bool.and_eq_true,decide_eq_true_eq,Bool.not_eq_true'] at e
  obtain ⟨rfl,rfl,⟨⟨⟨⟨h1,h2⟩,h3⟩,h4⟩,h5⟩,h6⟩:=e
  exact I1 h1 h2 h3 h4 h5 h6
 ·cases e
end Go.Proofs.YtibfpjeeanppjaaGreat.Bx
end
section
namespace Go.Proofs.YtibfpjeeanppjaaGreat.Bx
open Go Go.Sy Sh La
section
variable (s p info x:List Int)
end
theorem jc {x:List Int} (h:32≤x.length):aO 32 x=x.take 32:=by
 have e:aO 32 x=aO 32 (x.take 32):=by
  unfold aO
  refine List.map_congr_left fun i hi=>?_
  rw [List.getD_eq_getElem?_getD,List.getD_eq_getElem?_getD,List.getElem?_take_of_lt (List.mem_range.1 hi)]
 rw [e,aJ (by rw [List.length_take];omega)]
end Go.Proofs.YtibfpjeeanppjaaGreat.Bx
end
