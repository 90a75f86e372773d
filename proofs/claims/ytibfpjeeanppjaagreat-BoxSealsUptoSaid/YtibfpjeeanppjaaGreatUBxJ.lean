/- This file proves the contract of box's Seal in memory of its own. Conditions: keys of 32 bytes; lengths that the program takes. -/
import Derived.Test.YtibfpjeeanppjaaGreatUBxQ
set_option linter.all false
namespace Go.Proofs.YtibfpjeeanppjaaGreat.Bx
open Go Go.Sy Sh La
noncomputable def bsT:bK:=mk (P:=Tryz.prog) [Dv,Up false,Ae.RO,Ae.Bz,Sh.Ja] [] fun i=>if i=17||i=21||i=35 then some false else none
theorem UL:ag Tryz.prog bsT:=ai _ aF.nil _ _
set_option maxRecDepth 100000 in
theorem Ox (p d info text:List Int):(bE Tryz.prog bsT 60 Tryz.f12 [.agg [.ints .u8 32 p],.agg [.ints .u8 32 d],.ro false .u8 info,.ro false .u8 text] []).map (fun x=>(x.1,x.2.1.take 6,x.2.2))=
  some (.bk [.sl 5 0 0 1 (zH p d info text).flatten.length (zH p d info text).flatten.length false false,.nl .nilIface],
   [.b [.ints .u8 32 p],.b [.ints .u8 32 d],.b [.ints .u8 32 (bP d 9)],.b [.ints .u8 32 (pL d p (bP d 9) p info)],.b [.sl 2 0 0 1 32 32 true true,.ro true .u8 (Ae.eW (pL d p (bP d 9) p info) (Ae.di 0) info text)],.b [.ints .u8 (zH p d info text).flatten.length (zH p d info text).flatten]],Y9 p d info text):=by kernel_rfl
theorem UM {p d info text:List Int} (hd:Re.aE d=true) (hp:Re.aE p=true) (hz:jn d p=false) (hi:info.length≤65536) (ht:text.length≤65536):aj Tryz.prog 12 [.agg [.ints .u8 32 p],.agg [.ints .u8 32 d],.ro false .u8 info,.ro false .u8 text] [] (.bk [.sl 0 0 0 1 (text.length+48) (text.length+48) false false,.nl .nilIface]) [.b [.ints .u8 (text.length+48) (gl p d info text)]]:=by
 have hr:=Ox p d info text
 have ho:Y9 p d info text=true:=by
  unfold Y9
  rw [sW,mg,hd,hp,hz,gT,(Re.bQ.1 hp).1,decide_eq_false (show ¬(info.length:Int)>65536 by omega),decide_eq_false (show ¬(text.length:Int)>65536 by omega),decide_eq_true (show info.length<274877900000 by omega),decide_eq_true (show info.length≤1048576 by omega),decide_eq_true (show text.length≤1048576 by omega),decide_eq_true (show text.length+48≤274877906944 by omega)]
  rfl
 rw [sW,mg] at hr
 generalize gl p d info text=l at hr ⊢
 generalize text.length+48=N at hr ⊢
 have k:=dF UL 60 Tryz.func12 6 (by simp) hr ho rfl rfl
 exact aj.R8 [5] k (by kernel_rfl)
noncomputable def Sf:List SV→Option (SV×List Blk×Bool)
 | [.agg [.ints .u8 32 p],.agg [.ints .u8 32 d],.ro false .u8 info,.ro false .u8 text]=>some (.bk [.sl 0 0 0 1 (text.length+48) (text.length+48) false false,.nl .nilIface],[.b [.ints .u8 (text.length+48) (gl p d info text)]],Re.aE d&&Re.aE p&&!jn d p&&decide (info.length≤65536)&&decide (text.length≤65536))
 |_=>none
noncomputable def Zu:Entry Tryz.prog:=.val 12 _ Tryz.func12 (by decide) rfl true 1 Sf fun vs v new e=>by
 unfold Sf at e
 split at e
 ·simp only [Option.some.injEq,Prod.mk.injEq,Bool.and_eq_true,decide_eq_true_eq,Bool.not_eq_true'] at e
  obtain ⟨rfl,rfl,⟨⟨⟨h1,h2⟩,h3⟩,h4⟩,h5⟩:=e
  exact UM h1 h2 h3 h4 h5
 ·cases e
end Go.Proofs.YtibfpjeeanppjaaGreat.Bx
