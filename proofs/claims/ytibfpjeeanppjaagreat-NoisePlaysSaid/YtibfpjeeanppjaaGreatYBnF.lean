/- This file holds the texts BnE, BnF, a section each. No conditions beyond those in the theorems. -/
import Derived.Test.YtibfpjeeanppjaaGreatYBnP
import Derived.Test.YtibfpjeeanppjaaGreatYShG
set_option linter.all false
set_option maxRecDepth 100000
section
namespace Go.Proofs.YtibfpjeeanppjaaGreat.Bn
open Go Go.Sy Sh
noncomputable def cpC:bu:=mk (P:=Tryz.prog) [] [] (fun _=>none) (fun i=>i==8||i==10)
theorem WS:ag Tryz.prog cpC:=ah _ au.nil _ _
def y8 (xs:List Int):Int:=J ((xs.length:Int)+2)
def cpL (xs:List Int):List Int:=ng (ng (List.replicate (y8 xs).toNat 0) (0+0) xs xs.length) (0+(0+xs.length)) [165,90] 2
def cpO (xs:List Int):Bool:=
 aa (aa (aa (aa true (J 0==0&&J (y8 xs)==y8 xs&&(true&&decide (0≤y8 xs)&&decide ((1:Int)*y8 xs≤281474976710656))))
  (aa (aa (aa true true) (decide (0+xs.length≤(y8 xs).toNat))) (decide ((List.replicate (y8 xs).toNat (0:Int)).length=(y8 xs).toNat)&&decide (0+0+xs.length≤(y8 xs).toNat)&&decide (xs.length≤xs.length))))
  (aa (aa (aa true true) (decide (0+xs.length+2≤(y8 xs).toNat))) (decide ((ng (List.replicate (y8 xs).toNat 0) (0+0) xs xs.length).length=(y8 xs).toNat)&&decide (0+(0+xs.length)+2≤(y8 xs).toNat)&&true)))
  (aa true (true&&decide ((xs.length:Int)≤(((y8 xs).toNat:Nat):Int))))
theorem WT (xs:List Int):(br Tryz.prog cpC 60 Tryz.f11 [.ro false .u8 xs] []).map (fun r=>(r.1,r.2.1.take 1,r.2.2))=
  some (.sl 0 0 0 1 xs.length (y8 xs).toNat true false,[.b [.ints .u8 (y8 xs).toNat (cpL xs)]],cpO xs):=by kernel_rfl
theorem WU (xs:List Int) (h:xs.length<270000000000):(y8 xs).toNat=xs.length+2∧cpL xs=xs++[165,90]∧cpO xs=true:=by
 have hN:y8 xs=((xs.length+2:Nat):Int):=by unfold y8;rw [dy (by omega) (by omega)];omega
 have hs:ng (List.replicate (xs.length+2) 0) (0+0) xs xs.length=xs++[0,0]:=by
  unfold ng
  rw [Nat.zero_add,List.take_zero,List.nil_append,List.take_of_length_le (Nat.le_refl _),Nat.zero_add,List.drop_replicate,Nat.add_sub_cancel_left]
  rfl
 refine ⟨by rw [hN,Int.toNat_natCast],?_,?_⟩
 ·unfold cpL
  rw [hN,Int.toNat_natCast,hs]
  unfold ng
  rw [Nat.zero_add,Nat.zero_add,List.take_left' rfl,List.drop_of_length_le (by simp)]
  simp
 ·unfold cpO
  rw [hN,Int.toNat_natCast,hs,dy (n:=((xs.length+2:Nat):Int)) (by omega) (by omega)]
  simp [av,J,IntKind.wrap,IntKind.signed,IntKind.bits]
  omega
theorem Qx {xs:List Int} (h:xs.length<270000000000):ai Tryz.prog 11 [.ro false .u8 xs] [] (.sl 0 0 0 1 xs.length (xs.length+2) true false) [.b [.ints .u8 (xs.length+2) (xs++[165,90])]]:=by
 obtain ⟨h1,h2,h3⟩:=WU xs h
 have k:=WT xs
 rw [h1,h2,h3] at k
 exact aQ WS 60 Tryz.func11 1 (by simp) k rfl rfl rfl
def UH:List SV→Option (SV×List Blk×Bool)
 | [.ro false .u8 xs]=>some (.sl 0 0 0 1 xs.length (xs.length+2) true false,[.b [.ints .u8 (xs.length+2) (xs++[165,90])]],decide (xs.length<270000000000))
 |_=>none
noncomputable def UI:Entry Tryz.prog:=.val 11 _ Tryz.func11 (by decide) rfl true 1 UH fun vs v new e=>by
 unfold UH at e
 split at e
 ·simp only [Option.some.injEq,Prod.mk.injEq,decide_eq_true_eq] at e
  obtain ⟨rfl,rfl,h⟩:=e
  exact Qx h
 ·cases e
noncomputable def kpC:bu:=mk (P:=Tryz.prog) [] [] fun i=>if i=10||i=17 then some false else if i=29 then some true else none
theorem DP:ag Tryz.prog kpC:=ah _ au.nil _ _
noncomputable def kpB:Code:=aE Tryz.f16
noncomputable def kp1 (n m:Nat) (xs l:List Int):St:=⟨slotsOf 39 [(0,.sl 0 0 0 1 n (n+2) true false),(1,.ro false .u8 xs)],[.b [.ints .u8 m l]],true⟩
noncomputable def kp2 (n m q:Nat) (xs l:List Int):St:=⟨slotsOf 39 [(1,.ro false .u8 xs),(5,.sl 0 0 0 1 q (n+2) true false)],[.b [.ints .u8 m l]],true⟩
def kpO (n m:Nat) (xs l:List Int):Bool:=
 aa (aa (aa (aa true (aa (aa (decide (0+n≤m)&&decide (0+n≤l.length)) (true&&decide (((l.drop 0).take n).length=n))) (bE ((l.drop 0).take n)))) (aa (aa true (true&&decide (xs.length=xs.length))) (bE xs))) (!(!decide ((l.drop 0).take n=xs)))) (!decide (((n+2:Nat):Int)<J ((xs.length:Int)+2)))
def kpP (n:Nat) (xs:List Int):Bool:=aa true (aa true (decide (0≤J ((xs.length:Int)+2))&&decide (J ((xs.length:Int)+2)≤((n+2:Nat):Int))))
def kpQ (q m:Nat) (xs l:List Int):Bool:=aa (aa (aa (aa (aa true (cL (xs.length:Int) q)) (decide (0+(xs.length:Int).toNat<m))) (l.getD (0+(xs.length:Int).toNat) 0==165)) (cL (J ((xs.length:Int)+1)) q)) (decide (0+(J ((xs.length:Int)+1)).toNat<m))
section
variable (n m q:Nat) (xs l:List Int)
theorem ah7:(aW Tryz.prog kpC 60 1 3 (atoms kpB) ⟨aO Tryz.f16.ntmps [.sl 0 0 0 1 n (n+2) true false,.ro false .u8 xs],[.b [.ints .u8 m l]],true⟩).bind (St.cut [0,1] 1)=some {kp1 n m xs l with ob:=kpO n m xs l}:=by kernel_rfl
theorem ah8:(aW Tryz.prog kpC 60 1 1 ((atoms kpB).drop 3) (kp1 n m xs l)).bind (St.cut [1,5] 1)=some {kp2 n m (J ((xs.length:Int)+2)).toNat xs l with ob:=kpP n xs}:=by kernel_rfl
end
theorem WV {n m q:Nat} {xs l:List Int} {args:List SV} (ho:kpQ q m xs l=true) (ht:∀s' x,bf Tryz.prog none 1 ((atoms (aE Tryz.f16)).drop 4) (kp2 n m q xs l) x s'→bf Tryz.prog none 1 (atoms (aE Tryz.f16)) ⟨aO Tryz.f16.ntmps args,[.b [.ints .u8 m l]],true⟩ x s'):
  ai Tryz.prog 16 args [.b [.ints .u8 m l]] (.bool (l.getD (0+(J ((xs.length:Int)+1)).toNat) 0==90)) [.b [.ints .u8 m l]]:=
 ai.cu DP 60 4 1 Tryz.func16 (by simp) rfl ht (p:=kpQ q m xs l) (by kernel_rfl) ho rfl rfl
theorem Qy {xs:List Int} (h:xs.length<270000000000) (d:bE xs=true):ai Tryz.prog 16 [.sl 0 0 0 1 xs.length (xs.length+2) true false,.ro false .u8 xs] [.b [.ints .u8 (xs.length+2) (xs++[165,90])]] (.bool true) [.b [.ints .u8 (xs.length+2) (xs++[165,90])]]:=by
 have hJ:J ((xs.length:Int)+2)=((xs.length+2:Nat):Int):=by rw [dy (by omega) (by omega)];omega
 have hJ1:J ((xs.length:Int)+1)=((xs.length+1:Nat):Int):=by rw [dy (by omega) (by omega)];omega
 have g0:(xs++[165,90]).getD xs.length 0=165:=by rw [List.getD_eq_getElem?_getD,List.getElem?_append_right (Nat.le_refl _),Nat.sub_self];rfl
 have g1:(xs++[165,90]).getD (xs.length+1) 0=90:=by rw [List.getD_eq_getElem?_getD,List.getElem?_append_right (by omega),Nat.add_sub_cancel_left];rfl
 have hl:(xs++[(165:Int),90]).length=xs.length+2:=by simp
 have ht:((xs++[(165:Int),90]).drop 0).take xs.length=xs:=by rw [List.drop_zero,List.take_left' rfl]
 have oa:kpO xs.length (xs.length+2) xs (xs++[165,90])=true:=by
  unfold kpO
  rw [ht,hl,d,hJ,decide_eq_true (rfl:xs=xs),decide_eq_false (show ¬(((xs.length+2:Nat):Int)<((xs.length+2:Nat):Int)) by omega),decide_eq_true (show 0+xs.length≤xs.length+2 by omega),decide_eq_true (rfl:xs.length=xs.length)];rfl
 have ob:kpP xs.length xs=true:=by
  unfold kpP
  rw [hJ,decide_eq_true (show (0:Int)≤((xs.length+2:Nat):Int) by omega),decide_eq_true (Int.le_refl _)];rfl
 have oc:kpQ (xs.length+2) (xs.length+2) xs (xs++[165,90])=true:=by
  unfold kpQ
  rw [hJ1,Int.toNat_natCast,Int.toNat_natCast,Nat.zero_add,Nat.zero_add,g0,aK (by omega) (by omega),aK (by omega) (by omega),decide_eq_true (show xs.length<xs.length+2 by omega),decide_eq_true (show xs.length+1<xs.length+2 by omega)];rfl
 have ea:=ah7 xs.length (xs.length+2) xs (xs++[165,90])
 have eb:=ah8 xs.length (xs.length+2) xs (xs++[165,90])
 rw [oa] at ea
 rw [ob,hJ,Int.toNat_natCast] at eb
 have k:=WV (n:=xs.length) (q:=xs.length+2) (args:=[.sl 0 0 0 1 xs.length (xs.length+2) true false,.ro false .u8 xs]) oc fun s' x h=>by
  refine bf.items DP 60 3 _ 1 (by omega) ea rfl (by decide) ?_
  refine bf.items DP 60 1 _ 1 (by omega) eb rfl (by decide) ?_
  rw [List.drop_drop]
  exact h
 rw [hJ1,Int.toNat_natCast,Nat.zero_add,g1] at k
 exact k
def ace (vs:List SV):List Nat:=match vs with
 | .sl b _ _ _ _ _ _ _::_=>[b]
 |_=>[]
def UJ:List SV→List Blk→Option (SV×Bool)
 | [.sl 0 0 0 1 n c true false,.ro false .u8 xs],[.b [.ints .u8 m l]]=>some (.bool (decide (l=xs++[165,90])),decide (n=xs.length)&&decide (c=xs.length+2)&&decide (m=xs.length+2)&&decide (l=xs++[165,90])&&decide (xs.length<270000000000)&&bE xs)
 |_,_=>none
noncomputable def UK:Entry Tryz.prog:=.Qo 16 _ Tryz.func16 (by decide) rfl ace UJ fun vs h0 v e=>by
 unfold UJ at e
 split at e
 ·simp only [Option.some.injEq,Prod.mk.injEq,Bool.and_eq_true,decide_eq_true_eq] at e
  obtain ⟨rfl,⟨⟨⟨⟨rfl,rfl⟩,rfl⟩,rfl⟩,h5⟩,h6⟩:=e
  rw [decide_eq_true rfl]
  exact Qy h5 h6
 ·cases e
end Go.Proofs.YtibfpjeeanppjaaGreat.Bn
end
section
namespace Go.Proofs.YtibfpjeeanppjaaGreat.Bn
open Go Go.Sy Sh
noncomputable def nmC:bu:=mk (P:=Tryz.prog) [] []
theorem y9:ag Tryz.prog nmC:=ah _ au.nil _ _
noncomputable def anu:List SV→Option (SV×List Blk×Bool)
 | [.nl .nilIface]=>some (.int .i64 0,[],true)
 | [.iface 78 (.int .i64 1)]=>some (.int .i64 1,[],true)
 | [.iface 78 (.int .i64 2)]=>some (.int .i64 2,[],true)
 | [.iface 78 (.int .i64 3)]=>some (.int .i64 3,[],true)
 | [.iface 78 (.int .i64 4)]=>some (.int .i64 4,[],true)
 | [.iface 78 (.int .i64 5)]=>some (.int .i64 5,[],true)
 | [.iface 78 (.int .i64 6)]=>some (.int .i64 6,[],true)
 | [.iface 78 (.int .i64 7)]=>some (.int .i64 7,[],true)
 | [.iface 78 (.int .i64 8)]=>some (.int .i64 8,[],true)
 | [.iface 78 (.int .i64 9)]=>some (.int .i64 9,[],true)
 | [.iface 78 (.int .i64 10)]=>some (.int .i64 10,[],true)
 | [.iface 78 (.int .i64 11)]=>some (.int .i64 11,[],true)
 | [.iface 78 (.int .i64 12)]=>some (.int .i64 12,[],true)
 |_=>none
def WW (xs ys:List Int):Bool:=aa (aa true (aa (aa true (true&&decide (xs.length=xs.length))) (bE xs))) (aa (aa true (true&&decide (ys.length=ys.length))) (bE ys))
theorem Qz {xs ys:List Int} (h1:bE xs=true) (h2:bE ys=true):ai Tryz.prog 14 [.ro false .u8 xs,.ro false .u8 ys] [] (.bool (decide (xs=ys))) []:=
 aF y9 60 Tryz.func14 (p:=WW xs ys) (by kernel_rfl) (by unfold WW;rw [h1,h2,decide_eq_true (rfl:xs.length=xs.length),decide_eq_true (rfl:ys.length=ys.length)];rfl) rfl
def anv:SV→Option (List Int)
 | .ro false .u8 xs=>some xs
 | .nl (.slice none 0 0)=>some []
 |_=>none
noncomputable def UL:List SV→Option (SV×List Blk×Bool)
 | [.ro false .u8 xs,.ro false .u8 ys]=>some (.bool (decide (xs=ys)),[],bE xs&&bE ys)
 | [.nl (.slice none 0 0),.nl (.slice none 0 0)]=>some (.bool true,[],true)
 |_=>none
noncomputable def acf:Entry Tryz.prog:=.val 14 _ Tryz.func14 (by decide) rfl true 0 UL fun vs v new e=>by
 unfold UL at e
 split at e
 ·simp only [Option.some.injEq,Prod.mk.injEq,Bool.and_eq_true] at e
  obtain ⟨rfl,rfl,h1,h2⟩:=e
  exact Qz h1 h2
 ·cases e;exact aF y9 60 Tryz.func14 (p:=true) (by kernel_rfl) rfl rfl
 ·cases e
def agF:List SV→List Blk→Option (SV×Bool)
 | [.ptr 0 0 0],[.b [.ints .u8 32 key,.bool true,.int .i64 n]]=>some (.int .i64 n,true)
 |_,_=>none
def UM (vs:List SV):List Nat:=match vs with
 | .ptr b _ _::_=>[b]
 |_=>[]
end Go.Proofs.YtibfpjeeanppjaaGreat.Bn
end
