/- This file reads a package's table that a row lays down. No conditions. -/
import Derived.Test.YthlnlcijnoadcaaGreatDoorFTsN
import Derived.Test.YthlnlcijnoadcaaGreatDoorFSgV
import Derived.OpenShut
import Derived.LaidSub
import Derived.MakeChecks
set_option linter.all false
namespace Go.Sy
open Go Go.ChangeShapes Go.WideShapes Go.RowKit
theorem laid_ints {P:Program} {H:Type} {enc:TypeId×Value→H} {W:World} {base N:Nat} {t e:TypeId} {fuel:Nat} {held:Bool} {cs:List Value} {zs:List Int} {p:List MemPlace} (ht:P.underlying t=some (.array N e)) (he:P.underlying e=some (.int .u8)) (hc:P.cellsOf e=1) (hn:P.cellsOf t=N) (hz:zs.length=N)
  (h:DataW.trod enc P W base (fun _=>true) held fuel t cs=some (.agg (zs.map fun z=>.lit (.int .u8 z)),p)):cs=intsV .u8 zs:=by
 obtain ⟨xs,m,_,h0,hl,hxl,hx⟩:=DataW.trod_array ht h
 rw [hn] at hl
 rw [hc] at hx
 simp only [Prod.mk.injEq,DataW.agg.injEq] at h0
 apply List.ext_getElem
 ·rw [hl];simp [intsV,hz]
 ·intro i h1 h2
  have q:=hx i (by omega)
  rw [List.getElem?_eq_getElem (by omega),Nat.mul_one] at q
  obtain ⟨z,e1,e2,hw⟩:=DataW.trod_int he q
  have g:=congrArg (fun l:List Value=>l[0]?) e1
  simp only [List.getElem?_cons_zero,List.getElem?_take,List.getElem?_drop,Nat.add_zero,Nat.zero_lt_one,if_true] at g
  rw [List.getElem?_eq_getElem h1] at g
  have k:=congrArg (fun l=>l[i]?) h0.1
  simp only [List.getElem?_map] at k
  rw [List.getElem?_eq_getElem (show i<zs.length by omega),List.getElem?_eq_getElem (show i<xs.length by omega)] at k
  simp only [Option.map_some,Option.some.injEq,e2] at k
  simp only [DataW.lit.injEq,Lit.int.injEq,true_and] at k
  rw [Option.some.inj g]
  simp [intsV,k]
end Go.Sy
