/- This file holds the texts CpA, CpB, a section each. No conditions beyond those in the theorems. -/
import Derived.Test.YtibfpjeeanppjaaGreatYKdD
import Derived.Test.YtibfpjeeanppjaaGreatYAeF
set_option linter.all false
set_option maxRecDepth 100000
section
namespace Go.Proofs.YtibfpjeeanppjaaGreat.Cp
open Go Go.Sy Sh
noncomputable def twC:bu:=mk (P:=Tryz.prog) [Kd.FP] []
theorem DW:ag Tryz.prog twC:=ah _ au.nil _ _
noncomputable def lI (s:List Int):List Int:=(Kd.bp s [] 64).take 32
noncomputable def sk (s:List Int):List Int:=(Kd.bp s [] 64).drop 32
theorem jA (s:List Int):(lI s).length=32∧(sk s).length=32:=by unfold lI sk;rw [List.length_take,List.length_drop,Kd.eO];exact ⟨rfl,rfl⟩
noncomputable def twS (e:List Int):List Int:=ng (List.replicate 32 0) 0 e (Nat.min e.length 32)
noncomputable def twO (s e:List Int):Bool:=aa (aa (aa (aa true (aa (aa (decide (s.length=32)&&true) (decide (s.length=32))) (decide (s.length<274877900000)&&true&&true))) (aa true (true&&decide (0+Nat.min e.length 32≤32)&&decide (Nat.min e.length 32≤e.length)))) (aa true (aa true (true&&decide ((32:Int)≤(e.length:Int)))))) (aa true (true&&decide (0+Nat.min (e.drop 32).length 32≤32)&&decide (Nat.min (e.drop 32).length 32≤(e.drop 32).length)))
theorem DX (s:List Int):(br Tryz.prog twC 60 Tryz.f96 [.agg [.ints .u8 32 s]] []).map (fun x=>(x.1,x.2.2))=some (.aT [.agg [.ints .u8 32 (twS (Kd.bp s [] 64))],.agg [.ints .u8 32 (twS ((Kd.bp s [] 64).drop 32))]],twO s (Kd.bp s [] 64)):=by kernel_rfl
theorem KF {e:List Int} (h:32≤e.length):twS e=e.take 32:=by
 have hm:Nat.min e.length 32=32:=Nat.min_eq_right h
 unfold twS ng
 rw [hm]
 simp
theorem DY {s:List Int} (hs:s.length=32):ai Tryz.prog 96 [.agg [.ints .u8 32 s]] [] (.aT [.agg [.ints .u8 32 (lI s)],.agg [.ints .u8 32 (sk s)]]) []:=by
 have hl:=Kd.eO s [] 64
 have hd:((Kd.bp s [] 64).drop 32).length=32:=by rw [List.length_drop,hl]
 have k:=aF DW 60 Tryz.func96 (DX s) (by unfold twO;rw [hs,hd,hl];decide) rfl
 rw [KF (by omega),KF (by omega),List.take_of_length_le (i:=32) (l:=(Kd.bp s [] 64).drop 32) (by omega)] at k
 exact k
noncomputable def KG:List SV→Option (SV×List Blk×Bool)
 | [.agg [.ints .u8 32 s]]=>some (.aT [.agg [.ints .u8 32 (lI s)],.agg [.ints .u8 32 (sk s)]],[],decide (s.length=32))
 |_=>none
noncomputable def Iq:Entry Tryz.prog:=.val 96 _ Tryz.func96 (by decide) rfl false 0 KG fun vs v new e=>by
 unfold KG at e
 split at e
 ·simp only [Option.some.injEq,Prod.mk.injEq,decide_eq_true_eq] at e
  obtain ⟨rfl,rfl,h⟩:=e
  exact DY h
 ·cases e
def st (key:List Int) (h:Bool) (n:Int) (ch ha:List Int):Blk:=.b [.ints .u8 32 key,.bool h,.int .i64 n,.ints .u8 32 ch,.ints .u8 32 ha]
noncomputable def iB:List Int:=List.replicate 32 0
noncomputable def beC:bu:=mk (P:=Tryz.prog) [S2.nj] []
theorem DZ:ag Tryz.prog beC:=ah _ au.nil _ _
def iC (vs:List SV) (_:List Blk):List Nat:=match vs with
 | .ptr b _ _::_=>[b]
 |_=>[]
noncomputable def msC:bu:=mk (P:=Tryz.prog) [Kd.Bs,Iq] [(124,Tryz.f124)]
theorem KH:ag Tryz.prog msC:=ah _ (au.cons Tryz.func124 (by decide) au.nil) _ _
noncomputable def QW:List (FuncId×Func):=[(84,Tryz.f84),(94,Tryz.f94),(125,Tryz.f125),(49,Tryz.f49)]
theorem zi:au Tryz.prog QW:=au.cons Tryz.func84 (by decide) (au.cons Tryz.func94 (by decide) (au.cons Tryz.func125 (by decide) (au.cons Tryz.func49 (by decide) au.nil)))
noncomputable def hiC:bu:=mk (P:=Tryz.prog) [S2.nj,Ae.UF,Ae.vw] QW fun i=>if i=25 then some false else none
theorem KI:ag Tryz.prog hiC:=ah _ zi _ _
noncomputable def shC:bu:=mk (P:=Tryz.prog) [S2.nj,Ae.FG true,Ae.vw] QW fun i=>if i=25 then some false else none
theorem zj:ag Tryz.prog shC:=ah _ zi _ _
noncomputable def uO (key ha:List Int) (n:Int) (text:List Int):List Int:=Ae.fu key (Ae.aI n) ha text
noncomputable def hiX (ha x:List Int):Bool:=aa true (aa (aa true (aa (aa true (decide (ha.length=32)&&true)) (decide (ha.length=32)))) (decide ([ha,x].flatten.length<274877900000)&&true))
noncomputable def hiO (ha text x:List Int) (n:Int):Bool:=aa (aa true (aa true (aa (aa true (!decide (n≥4294967295))) (aa (aa true (aa true (aa (decide (ha.length=32)&&true) (decide (ha.length=32))))) (true&&decide (ha.length≤1048576)&&decide (text.length≤1048576)))))) (hiX ha x)
noncomputable def shO (key ha x:List Int) (n:Int):Bool:=aa (aa true (aa true (aa (aa true (!decide (n≥4294967295))) (aa (aa true (aa true (aa (decide (ha.length=32)&&true) (decide (ha.length=32))))) (true&&decide (ha.length≤1048592)&&decide (x.length≤1048592)&&Ae.bJ key (Ae.aI n) ha x))))) (hiX ha x)
section
variable (key ch ha text:List Int) (h:Bool) (n:Int)
theorem D0:(br Tryz.prog hiC 60 Tryz.f52 [.ptr 0 0 0,.ro false .u8 text] [st key true n ch ha]).map (fun x=>(x.1,x.2.1.take 1,x.2.2))=
  some (.aT [.ro true .u8 (uO key ha n text),.nl .nilIface],[st key true (IntKind.i64.wrap (n+1)) ch (S2.aq [ha,uO key ha n text].flatten)],hiO ha text (uO key ha n text) n):=by kernel_rfl
theorem D1:(br Tryz.prog shC 60 Tryz.f59 [.ptr 0 0 0,.ro false .u8 text] [st key true n ch ha]).map (fun x=>(x.1,x.2.1.take 1,x.2.2))=
  some (.aT [.ro true .u8 (Ae.cn key (Ae.aI n) text),.nl .nilIface],[st key true (IntKind.i64.wrap (n+1)) ch (S2.aq [ha,text].flatten)],shO key ha text n):=by kernel_rfl
end
theorem nr {ha x:List Int} (h1:ha.length=32) (h2:x.length<270000000000):hiX ha x=true:=by
 unfold hiX
 rw [h1,decide_eq_true (show [ha,x].flatten.length<274877900000 by simp only [List.flatten_cons,List.flatten_nil,List.length_append,List.length_nil];omega)]
 rfl
theorem vG (a b:List Int):[a,b].flatten=a++b:=by simp
theorem zk {key ch ha text:List Int} {n:Int} (h1:ha.length=32) (h0:0≤n) (hn:n<4294967295) (ht:text.length≤1048576):
  ai Tryz.prog 52 [.ptr 0 0 0,.ro false .u8 text] [st key true n ch ha] (.aT [.ro true .u8 (uO key ha n text),.nl .nilIface]) [st key true (n+1) ch (S2.aq (ha++uO key ha n text))]:=by
 have e:=D0 key ch ha text n
 rw [wrap_i64 _ (by omega) (by omega),vG] at e
 exact aQ KI 60 Tryz.func52 1 (by simp) e (by
  unfold hiO
  rw [h1,decide_eq_false (show ¬(n≥4294967295) by omega),decide_eq_true ht,nr h1 (by unfold uO;rw [Ae.fk];omega)]
  rfl) rfl rfl
theorem zl {key ch ha x:List Int} {n:Int} (h1:ha.length=32) (h0:0≤n) (hn:n<4294967295) (ht:x.length≤1048592) (ok:Ae.bJ key (Ae.aI n) ha x=true):
  ai Tryz.prog 59 [.ptr 0 0 0,.ro false .u8 x] [st key true n ch ha] (.aT [.ro true .u8 (Ae.cn key (Ae.aI n) x),.nl .nilIface]) [st key true (n+1) ch (S2.aq (ha++x))]:=by
 have e:=D1 key ch ha x n
 rw [wrap_i64 _ (by omega) (by omega),vG] at e
 exact aQ zj 60 Tryz.func59 1 (by simp) e (by
  unfold shO
  rw [h1,decide_eq_false (show ¬(n≥4294967295) by omega),decide_eq_true ht,ok,nr h1 (by omega)]
  rfl) rfl rfl
noncomputable def tH:List SV→List Blk→Option (SV×List Blk×Bool)
 | [.ptr 0 0 0,.ro false .u8 text],[.b [.ints .u8 32 key,.bool true,.int .i64 n,.ints .u8 32 ch,.ints .u8 32 ha]]=>some (.aT [.ro true .u8 (uO key ha n text),.nl .nilIface],[st key true (n+1) ch (S2.aq (ha++uO key ha n text))],decide (ha.length=32)&&decide (0≤n)&&decide (n<4294967295)&&decide (text.length≤1048576))
 |_,_=>none
noncomputable def FQ:Entry Tryz.prog:=.mut 52 _ Tryz.func52 (by decide) rfl iC 0 tH fun vs h0 v h1 e=>by
 unfold tH at e
 split at e
 ·simp only [Option.some.injEq,Prod.mk.injEq,Bool.and_eq_true,decide_eq_true_eq] at e
  obtain ⟨rfl,rfl,⟨⟨h1,h2⟩,h3⟩,h4⟩:=e
  exact zk h1 h2 h3 h4
 ·cases e
noncomputable def tI:List SV→List Blk→Option (SV×List Blk×Bool)
 | [.ptr 0 0 0,.ro false .u8 x],[.b [.ints .u8 32 key,.bool true,.int .i64 n,.ints .u8 32 ch,.ints .u8 32 ha]]=>some (.aT [.ro true .u8 (Ae.cn key (Ae.aI n) x),.nl .nilIface],[st key true (n+1) ch (S2.aq (ha++x))],decide (ha.length=32)&&decide (0≤n)&&decide (n<4294967295)&&decide (x.length≤1048592)&&Ae.bJ key (Ae.aI n) ha x)
 |_,_=>none
noncomputable def FR:Entry Tryz.prog:=.mut 59 _ Tryz.func59 (by decide) rfl iC 0 tI fun vs h0 v h1 e=>by
 unfold tI at e
 split at e
 ·simp only [Option.some.injEq,Prod.mk.injEq,Bool.and_eq_true,decide_eq_true_eq] at e
  obtain ⟨rfl,rfl,⟨⟨⟨h1,h2⟩,h3⟩,h4⟩,h5⟩:=e
  exact zl h1 h2 h3 h4 h5
 ·cases e
end Go.Proofs.YtibfpjeeanppjaaGreat.Cp
end
section
namespace Go.Proofs.YtibfpjeeanppjaaGreat.Cp
open Go Go.Sy Sh
noncomputable def c0:bu:=mk (P:=Tryz.prog) [] []
theorem yf:ag Tryz.prog c0:=ah _ au.nil _ _
def ci (key:List Int) (h:Bool) (n:Int):Blk:=.b [.ints .u8 32 key,.bool h,.int .i64 n]
theorem nu (key:List Int):ai Tryz.prog 124 [.agg [.ints .u8 32 key]] [] (.ptr 0 0 0) [ci key true 0]:=by
 have k:ai Tryz.prog 124 [.agg [.ints .u8 32 key]] [] (.ptr 1 0 0) [.b [.ints .u8 32 key],ci key true 0]:=
  aQ yf 60 Tryz.func124 2 (by simp) (p:=true) (by kernel_rfl) rfl rfl rfl
 exact ai.KE [1] k (by kernel_rfl)
def newF:List SV→Option (SV×List Blk×Bool)
 | [.agg [.ints .u8 32 key]]=>some (.ptr 0 0 0,[ci key true 0],true)
 |_=>none
noncomputable def Bt:Entry Tryz.prog:=.val 124 _ Tryz.func124 (by decide) rfl false 1 newF fun vs v new e=>by
 unfold newF at e
 split at e
 ·cases e;exact nu _
 ·cases e
theorem Ir (xs:List Int):(br Tryz.prog beC 60 Tryz.f48 [.str xs] []).map (fun x=>x)=
  some (.ptr 2 0 0,[.b [.ro true .u8 xs],.b [.ints .u8 32 (S2.aq [xs].flatten)],st iB false 0 (S2.aq [xs].flatten) (S2.aq [xs].flatten)],aa true (aa true (decide ([xs].flatten.length<274877900000)&&true))):=by kernel_rfl
theorem KJ {xs:List Int} (h:xs.length<274877900000):ai Tryz.prog 48 [.str xs] [] (.ptr 0 0 0) [st iB false 0 (S2.aq xs) (S2.aq xs)]:=by
 have k:=Ir xs
 rw [show [xs].flatten=xs by simp,decide_eq_true h] at k
 obtain ⟨x,h2,h3⟩:=Option.map_eq_some_iff.1 k
 subst h3
 exact ai.KE [2] (ai.dw DZ Tryz.func48 h2) (by kernel_rfl)
noncomputable def nA:List SV→Option (SV×List Blk×Bool)
 | [.str xs]=>some (.ptr 0 0 0,[st iB false 0 (S2.aq xs) (S2.aq xs)],decide (xs.length<274877900000))
 |_=>none
noncomputable def vH:Entry Tryz.prog:=.val 48 _ Tryz.func48 (by decide) rfl false 1 nA fun vs v new e=>by
 unfold nA at e
 split at e
 ·simp only [Option.some.injEq,Prod.mk.injEq,decide_eq_true_eq] at e
  obtain ⟨rfl,rfl,h⟩:=e
  exact KJ h
 ·cases e
noncomputable def mcC:bu:=mk (P:=Tryz.prog) [Kd.Bs,Iq,Bt] []
theorem KK:ag Tryz.prog mcC:=ah _ au.nil _ _
noncomputable def mcO (ch m:List Int):Bool:=aa (aa true (aa (aa (decide (ch.length=32)&&true) (decide (ch.length=32))) (decide (ch.length<274877900000)&&decide (m.length<274877890000)))) (aa true (decide ((Kd.bG ch m).length=32)))
theorem zm {key ch ha m:List Int} {h:Bool} {n:Int} (hc:ch.length=32) (hm:m.length<274877890000):ai Tryz.prog 83 [.ptr 0 0 0,.ro false .u8 m] [st key h n ch ha] (.aT []) [st (sk (Kd.bG ch m)) true 0 (lI (Kd.bG ch m)) ha]:=
 aQ KK 60 Tryz.func83 1 (by simp) (p:=mcO ch m) (by kernel_rfl) (by
  unfold mcO
  rw [hc,Kd.eM,decide_eq_true hm]
  rfl) rfl rfl
noncomputable def eP:List SV→List Blk→Option (SV×List Blk×Bool)
 | [.ptr 0 0 0,.ro false .u8 m],[.b [.ints .u8 32 key,.bool h,.int .i64 n,.ints .u8 32 ch,.ints .u8 32 ha]]=>some (.aT [],[st (sk (Kd.bG ch m)) true 0 (lI (Kd.bG ch m)) ha],decide (ch.length=32)&&decide (m.length<274877890000))
 |_,_=>none
noncomputable def fO:Entry Tryz.prog:=.mut 83 _ Tryz.func83 (by decide) rfl iC 0 eP fun vs h0 v h1 e=>by
 unfold eP at e
 split at e
 ·simp only [Option.some.injEq,Prod.mk.injEq,Bool.and_eq_true,decide_eq_true_eq] at e
  obtain ⟨rfl,rfl,h1,h2⟩:=e
  exact zm h1 h2
 ·cases e
end Go.Proofs.YtibfpjeeanppjaaGreat.Cp
end
