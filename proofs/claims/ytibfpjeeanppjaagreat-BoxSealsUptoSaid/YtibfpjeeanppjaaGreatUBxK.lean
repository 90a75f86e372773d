/- This file proves the law BoxSeals. Conditions: bytes; keys of 32 bytes; lengths that memory bears. -/
import Derived.Test.YtibfpjeeanppjaaGreatUBxI
import Derived.Test.YtibfpjeeanppjaaGreatUBxJ
import Derived.Test.YtibfpjeeanppjaaGreatUBxQ
import Derived.Test.YtibfpjeeanppjaaGreatUBnK
import Derived.Test.YtibfpjeeanppjaaGreatUBnF
set_option linter.all false
set_option maxRecDepth 100000
namespace Go.Proofs.YtibfpjeeanppjaaGreat.Bx
open Go Go.Sy Sh La
def BL (info text:List Int):Bool:=decide (1000<info.length∧info.length≤65536∨1000<text.length∧text.length≤65536)
noncomputable def lgC (a b c:Bool):bK:=mk (P:=Tryz.prog) [] [] fun i=>if i=7 then some a else if i=13 then some b else if i=18 then some c else none
theorem tV (a b c:Bool):ag Tryz.prog (lgC a b c):=ai _ aF.nil _ _
noncomputable def Zv (a b c:Bool) (p d info text:List Int):Option (SV×Bool):=(bE Tryz.prog (lgC a b c) 60 Tryz.f10 [.agg [.ints .u8 32 p,.ints .u8 32 d,.ro false .u8 info,.ro false .u8 text]] []).map (fun x=>(x.1,x.2.2))
section
variable (p d info text:List Int)
theorem aeO:Zv true true true p d info text=some (.bool true,aa (aa true (decide ((info.length:Int)>1000))) (decide ((info.length:Int)≤65536))):=by kernel_rfl
theorem aeP:Zv true false true p d info text=some (.bool (decide ((text.length:Int)≤65536)),aa (aa (aa true (decide ((info.length:Int)>1000))) (!decide ((info.length:Int)≤65536))) (decide ((text.length:Int)>1000))):=by kernel_rfl
theorem aeQ:Zv true false false p d info text=some (.bool false,aa (aa (aa true (decide ((info.length:Int)>1000))) (!decide ((info.length:Int)≤65536))) (!decide ((text.length:Int)>1000))):=by kernel_rfl
theorem aeR:Zv false false true p d info text=some (.bool (decide ((text.length:Int)≤65536)),aa (aa true (!decide ((info.length:Int)>1000))) (decide ((text.length:Int)>1000))):=by kernel_rfl
theorem aeS:Zv false false false p d info text=some (.bool false,aa (aa true (!decide ((info.length:Int)>1000))) (!decide ((text.length:Int)>1000))):=by kernel_rfl
end
theorem Jb (p d info text:List Int):aj Tryz.prog 10 [.agg [.ints .u8 32 p,.ints .u8 32 d,.ro false .u8 info,.ro false .u8 text]] [] (.bool (BL info text)) []:=by
 by_cases h1:1000<info.length
 ·by_cases h2:info.length≤65536
  ·rw [show BL info text=true from decide_eq_true (.inl ⟨h1,h2⟩)]
   exact aP (tV _ _ _) 60 Tryz.func10 (aeO p d info text) (by rw [decide_eq_true (show (info.length:Int)>1000 by omega),decide_eq_true (show (info.length:Int)≤65536 by omega)];rfl) rfl
  ·by_cases h3:1000<text.length
   ·rw [show BL info text=decide ((text.length:Int)≤65536) from decide_eq_decide.2 (by omega)]
    exact aP (tV _ _ _) 60 Tryz.func10 (aeP p d info text) (by rw [decide_eq_true (show (info.length:Int)>1000 by omega),decide_eq_false (show ¬(info.length:Int)≤65536 by omega),decide_eq_true (show (text.length:Int)>1000 by omega)];rfl) rfl
   ·rw [show BL info text=false from decide_eq_false (by omega)]
    exact aP (tV _ _ _) 60 Tryz.func10 (aeQ p d info text) (by rw [decide_eq_true (show (info.length:Int)>1000 by omega),decide_eq_false (show ¬(info.length:Int)≤65536 by omega),decide_eq_false (show ¬(text.length:Int)>1000 by omega)];rfl) rfl
 ·by_cases h3:1000<text.length
  ·rw [show BL info text=decide ((text.length:Int)≤65536) from decide_eq_decide.2 (by omega)]
   exact aP (tV _ _ _) 60 Tryz.func10 (aeR p d info text) (by rw [decide_eq_false (show ¬(info.length:Int)>1000 by omega),decide_eq_true (show (text.length:Int)>1000 by omega)];rfl) rfl
  ·rw [show BL info text=false from decide_eq_false (by omega)]
   exact aP (tV _ _ _) 60 Tryz.func10 (aeS p d info text) (by rw [decide_eq_false (show ¬(info.length:Int)>1000 by omega),decide_eq_false (show ¬(text.length:Int)>1000 by omega)];rfl) rfl
noncomputable def Jc:List SV→Option (SV×List Blk×Bool)
 | [.agg [.ints .u8 32 _,.ints .u8 32 _,.ro false .u8 info,.ro false .u8 text]]=>some (.bool (BL info text),[],true)
 |_=>none
noncomputable def Jd:Entry Tryz.prog:=.val 10 _ Tryz.func10 (by decide) rfl false 0 Jc fun vs v new e=>by
 unfold Jc at e
 split at e
 ·simp only [Option.some.injEq,Prod.mk.injEq,and_true] at e
  obtain ⟨rfl,rfl⟩:=e
  exact Jb _ _ _ _
 ·cases e
def fS (a:Bool):Nat→Option Bool:=fun i=>if i=12 then some a else if i=44||i=50||i=56||i=62 then some true else none
noncomputable def bsA (a:Bool):bK:=mk (P:=Tryz.prog) [I9,Jd,Bn.IP,Zu,Uz,Bn.RW,Bn.Ua,Bn.RU,Bn.Dt] [] (fS a)
theorem Je (a:Bool):ag Tryz.prog (bsA a):=ai _ aF.nil _ _
noncomputable def bsB (u:Nat) (v:Bool):bK:=mk (P:=Tryz.prog) [I9,Jd,Bn.IP,Sa u,Zw v,Bn.RW,Bn.Ua,Bn.RU,Bn.Dt] [] (fS false)
theorem Jf (u:Nat) (v:Bool):ag Tryz.prog (bsB u v):=ai _ aF.nil _ _
def Ya (x:List Int):List Int:=List.take x.length (List.drop 0 (x++[165,90]))
theorem Jg (x:List Int):Ya x=x:=by unfold Ya;rw [List.drop_zero,List.take_left' rfl]
section
variable (p d info text:List Int)
noncomputable def sO0:Bool:=aa (aa (aa (aa (aa (aa (aa (aa (aa (aa (aa (aa true (!BL info text)) (aa true (decide (info.length<270000000000)))) (aa true (decide (text.length<270000000000)))) (aa (aa true (aa true (aa (aa (decide (0+info.length≤info.length+2)&&decide (0+info.length≤(info++[(165:Int),90]).length)) (decide ((Ya info).length=info.length))) (aa (decide (0+text.length≤text.length+2)&&decide (0+text.length≤(text++[(165:Int),90]).length)) (decide ((Ya text).length=text.length)))))) (Re.aE d&&Re.aE p&&!jn d p&&decide ((Ya info).length≤65536)&&decide ((Ya text).length≤65536)))) (aa true (Re.aE d&&Re.aE p&&!jn d p&&decide (info.length≤65536)&&decide (text.length≤65536)&&dD info))) (aa (aa (aa (decide (0+((Ya text).length+48)≤(Ya text).length+48)&&decide (0+((Ya text).length+48)≤(gl p d (Ya info) (Ya text)).length)) (decide ((List.take ((Ya text).length+48) (List.drop 0 (gl p d (Ya info) (Ya text)))).length=(Ya text).length+48))) (aa (decide ((gl p d info text).length=text.length+48)&&(decide (text.length+48≤text.length+48)&&true)) (decide ((gl p d info text).length=text.length+48)))) (dD (List.take ((Ya text).length+48) (List.drop 0 (gl p d (Ya info) (Ya text))))&&dD (gl p d info text)))) (decide (List.take ((Ya text).length+48) (List.drop 0 (gl p d (Ya info) (Ya text)))=gl p d info text))) (aa true (decide (info.length=info.length)&&decide (info.length+2=info.length+2)&&decide (info.length+2=info.length+2)&&decide (info++[(165:Int),90]=info++[(165:Int),90])&&decide (info.length<270000000000)&&dD info))) (decide (info++[(165:Int),90]=info++[(165:Int),90]))) (aa true (decide (text.length=text.length)&&decide (text.length+2=text.length+2)&&decide (text.length+2=text.length+2)&&decide (text++[(165:Int),90]=text++[(165:Int),90])&&decide (text.length<270000000000)&&dD text))) (decide (text++[(165:Int),90]=text++[(165:Int),90]))) (aa true (decide (info.length+2=info.length+2)&&decide (text.length+2=text.length+2)&&decide ((Ya text).length+48=(Ya text).length+48)&&decide (info.length+2=info.length+2)&&decide (text.length+2=text.length+2)&&decide ((gl p d (Ya info) (Ya text)).length=(Ya text).length+48)&&decide ((info++[(165:Int),90]).length=info.length+2)&&decide ((text++[(165:Int),90]).length=text.length+2)&&decide ((Ya text).length+48<270000000000)&&decide (info.length<270000000000)&&decide (text.length<270000000000)))
noncomputable def sO1:Bool:=aa (aa (aa (aa (aa (aa (aa (aa (aa (aa true (!BL info text)) (aa true (decide (info.length<270000000000)))) (aa true (decide (text.length<270000000000)))) (aa (aa true (aa true (aa (aa (decide (0+info.length≤info.length+2)&&decide (0+info.length≤(info++[(165:Int),90]).length)) (decide ((Ya info).length=info.length))) (aa (decide (0+text.length≤text.length+2)&&decide (0+text.length≤(text++[(165:Int),90]).length)) (decide ((Ya text).length=text.length)))))) (Re.aE d&&Re.aE p&&jn d p&&decide ((Ya info).length≤65536)&&decide ((Ya text).length≤65536)))) (aa true (Re.aE d&&Re.aE p&&jn d p&&decide (info.length≤65536)&&decide (text.length≤65536)))) (aa true (decide (info.length=info.length)&&decide (info.length+2=info.length+2)&&decide (info.length+2=info.length+2)&&decide (info++[(165:Int),90]=info++[(165:Int),90])&&decide (info.length<270000000000)&&dD info))) (decide (info++[(165:Int),90]=info++[(165:Int),90]))) (aa true (decide (text.length=text.length)&&decide (text.length+2=text.length+2)&&decide (text.length+2=text.length+2)&&decide (text++[(165:Int),90]=text++[(165:Int),90])&&decide (text.length<270000000000)&&dD text))) (decide (text++[(165:Int),90]=text++[(165:Int),90]))) (aa true (decide (info.length+2=info.length+2)&&decide (text.length+2=text.length+2)&&decide (info.length+2=info.length+2)&&decide (text.length+2=text.length+2)&&decide ((info++[(165:Int),90]).length=info.length+2)&&decide ((text++[(165:Int),90]).length=text.length+2)&&decide (info.length<270000000000)&&decide (text.length<270000000000)))
noncomputable def sO2:Bool:=aa (aa (aa (aa (aa (aa (aa (aa (aa (aa true (!BL info text)) (aa true (decide (info.length<270000000000)))) (aa true (decide (text.length<270000000000)))) (aa (aa true (aa true (aa (aa (decide (0+info.length≤info.length+2)&&decide (0+info.length≤(info++[(165:Int),90]).length)) (decide ((Ya info).length=info.length))) (aa (decide (0+text.length≤text.length+2)&&decide (0+text.length≤(text++[(165:Int),90]).length)) (decide ((Ya text).length=text.length)))))) (decide (65536<(Ya info).length∨65536<(Ya text).length)))) (aa true (decide (65536<info.length∨65536<text.length)))) (aa true (decide (info.length=info.length)&&decide (info.length+2=info.length+2)&&decide (info.length+2=info.length+2)&&decide (info++[(165:Int),90]=info++[(165:Int),90])&&decide (info.length<270000000000)&&dD info))) (decide (info++[(165:Int),90]=info++[(165:Int),90]))) (aa true (decide (text.length=text.length)&&decide (text.length+2=text.length+2)&&decide (text.length+2=text.length+2)&&decide (text++[(165:Int),90]=text++[(165:Int),90])&&decide (text.length<270000000000)&&dD text))) (decide (text++[(165:Int),90]=text++[(165:Int),90]))) (aa true (decide (info.length+2=info.length+2)&&decide (text.length+2=text.length+2)&&decide (info.length+2=info.length+2)&&decide (text.length+2=text.length+2)&&decide ((info++[(165:Int),90]).length=info.length+2)&&decide ((text++[(165:Int),90]).length=text.length+2)&&decide (info.length<270000000000)&&decide (text.length<270000000000)))
theorem Jh:(bE Tryz.prog (bsA true) 60 Tryz.f3 [.agg [.ints .u8 32 p,.ints .u8 32 d,.ro false .u8 info,.ro false .u8 text]] []).map (fun x=>(x.1,x.2.2))=some (.bool true,aa true (BL info text)):=by kernel_rfl
theorem UN:(bE Tryz.prog (bsA false) 60 Tryz.f3 [.agg [.ints .u8 32 p,.ints .u8 32 d,.ro false .u8 info,.ro false .u8 text]] []).map (fun x=>(x.1,x.2.2))=some (.bool (decide ((info++[(165:Int),90]).length=info.length+2)),sO0 p d info text):=by kernel_rfl
theorem Ji:(bE Tryz.prog (bsB 1 false) 60 Tryz.f3 [.agg [.ints .u8 32 p,.ints .u8 32 d,.ro false .u8 info,.ro false .u8 text]] []).map (fun x=>(x.1,x.2.2))=some (.bool (decide ((info++[(165:Int),90]).length=info.length+2)),sO1 p d info text):=by kernel_rfl
theorem Oy:(bE Tryz.prog (bsB 0 true) 60 Tryz.f3 [.agg [.ints .u8 32 p,.ints .u8 32 d,.ro false .u8 info,.ro false .u8 text]] []).map (fun x=>(x.1,x.2.2))=some (.bool (decide ((info++[(165:Int),90]).length=info.length+2)),sO2 info text):=by kernel_rfl
end
theorem Jj {a b:List Int} (ha:dD a=true) (hb:dD b=true):dD (a++b)=true:=by
 unfold dD at*
 rw [List.all_append,ha,hb];rfl
theorem aeY (x:List Int):(x++[(165:Int),90]).length=x.length+2:=by simp
section
variable {p d info text:List Int} (hd:Re.aE d=true) (hp:Re.aE p=true) (ui:dD info=true) (ut:dD text=true) (li:info.length<270000000000) (lt:text.length<270000000000)
include hd hp ui ut li lt
theorem Jk (hg:BL info text=false) (hz:jn d p=false) (hi:info.length≤65536) (ht:text.length≤65536) (ub:dD (gl p d info text)=true):sO0 p d info text=true:=by
 have hl:=mg p d info text
 unfold sO0
 simp only [Jg,List.drop_zero]
 rw [List.take_of_length_le (l:=gl p d info text) (by omega)]
 simp [au,hd,hp,ui,ut,hg,hz,hi,ht,ub,hl]
 omega
theorem Jl (hg:BL info text=false) (hz:jn d p=true) (hi:info.length≤65536) (ht:text.length≤65536):sO1 p d info text=true:=by
 unfold sO1
 simp only [Jg]
 simp [au,hd,hp,ui,ut,hg,hz,hi,ht]
 omega
theorem Jm (hg:BL info text=false) (h:65536<info.length∨65536<text.length):sO2 info text=true:=by
 unfold sO2
 simp only [Jg]
 simp [au,ui,ut,hg,h]
 omega
theorem FR:aj Tryz.prog 3 [.agg [.ints .u8 32 p,.ints .u8 32 d,.ro false .u8 info,.ro false .u8 text]] [] (.bool true) []:=by
 cases hg:BL info text with
 |true=>exact aP (Je true) 60 Tryz.func3 (Jh p d info text) (by rw [hg];rfl) rfl
 |false=>
  have ht:decide ((info++[(165:Int),90]).length=info.length+2)=true:=decide_eq_true (aeY info)
  by_cases hl:65536<info.length∨65536<text.length
  ·have k:=aP (Jf 0 true) 60 Tryz.func3 (Oy p d info text) (Jm (p:=p) (d:=d) hd hp ui ut li lt hg hl) rfl
   rw [ht] at k
   exact k
  ·cases hz:jn d p with
   |true=>
    have k:=aP (Jf 1 false) 60 Tryz.func3 (Ji p d info text) (Jl hd hp ui ut li lt hg hz (by omega) (by omega)) rfl
    rw [ht] at k
    exact k
   |false=>
    have ub:dD (gl p d info text)=true:=by
     unfold gl
     exact Jj (xu (mj _ _)) (R4.bF.2 ((R4.Jn 1).app (R4.UO _ _ _ _)))
    have k:=aP (Je false) 60 Tryz.func3 (UN p d info text) (Jk hd hp ui ut li lt hg hz (by omega) (by omega) ub) rfl
    rw [ht] at k
    exact k
end
end Go.Proofs.YtibfpjeeanppjaaGreat.Bx
