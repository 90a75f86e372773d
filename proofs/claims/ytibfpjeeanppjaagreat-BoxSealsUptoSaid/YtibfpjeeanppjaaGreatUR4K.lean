/- This file holds the texts R4J, R4K, a section each. No conditions beyond those in the theorems. -/
import Derived.Test.YtibfpjeeanppjaaGreatUR4I
set_option linter.all false
set_option maxRecDepth 100000
section
namespace Go.Proofs.YtibfpjeeanppjaaGreat.R4
open Go Go.Sy Sh
def e1 (n:Int):Int:=J (n.tdiv 256)
def yT (n:Int):List Int:=[IntKind.u8.wrap (n.tmod 256),IntKind.u8.wrap ((e1 n).tmod 256),IntKind.u8.wrap ((e1 (e1 n)).tmod 256),IntKind.u8.wrap ((e1 (e1 (e1 n))).tmod 256),IntKind.u8.wrap ((e1 (e1 (e1 (e1 n)))).tmod 256),IntKind.u8.wrap ((e1 (e1 (e1 (e1 (e1 n))))).tmod 256),IntKind.u8.wrap ((e1 (e1 (e1 (e1 (e1 (e1 n)))))).tmod 256),IntKind.u8.wrap ((e1 (e1 (e1 (e1 (e1 (e1 (e1 n))))))).tmod 256)]
theorem MF (n:Int):aj Tryz.prog 118 [.int .i64 n] [] (.ro true .u8 (yT n)) []:=
 aj.frozen (N:=8) (ex:=false) (wh:=true) (aj.R8 [1] (dF (cH fun i=>if i=14 then some true else none) 200 Tryz.func118 (args:=[.int .i64 n]) (h:=[]) 2 (by simp) (v:=.sl 1 0 0 1 8 8 false true) (h1:=[.b [.ints .u8 1 [IntKind.u8.wrap (n.tmod 256)]],.b [.ints .u8 8 (yT n)]]) (p:=true) (by kernel_rfl) rfl rfl rfl) (by kernel_rfl)) rfl
theorem vz {n:Int} (h0:0≤n) (h1:n<9223372036854775808):e1 n=n/256:=by
 unfold e1
 rw [dY h0]
 exact wrap_i64 _ (by omega) (by omega)
theorem MG {n:Int} (h0:0≤n) (h1:n<9223372036854775808):yT n=Ae.dS (Ae.W n):=by
 have t:∀{m:Int},0≤m→IntKind.u8.wrap (m.tmod 256)=m%256:=fun h=>by rw [Fe.wrap_u8,cT h];omega
 have a1:=vz h0 h1
 have a2:=vz (n:=e1 n) (by omega) (by omega)
 have a3:=vz (n:=e1 (e1 n)) (by omega) (by omega)
 have a4:=vz (n:=e1 (e1 (e1 n))) (by omega) (by omega)
 have a5:=vz (n:=e1 (e1 (e1 (e1 n)))) (by omega) (by omega)
 have a6:=vz (n:=e1 (e1 (e1 (e1 (e1 n))))) (by omega) (by omega)
 have a7:=vz (n:=e1 (e1 (e1 (e1 (e1 (e1 n)))))) (by omega) (by omega)
 rw [tq,sP]
 unfold yT
 rw [t h0,t (m:=e1 n) (by omega),t (m:=e1 (e1 n)) (by omega),t (m:=e1 (e1 (e1 n))) (by omega),t (m:=e1 (e1 (e1 (e1 n)))) (by omega),t (m:=e1 (e1 (e1 (e1 (e1 n))))) (by omega),t (m:=e1 (e1 (e1 (e1 (e1 (e1 n)))))) (by omega),t (m:=e1 (e1 (e1 (e1 (e1 (e1 (e1 n))))))) (by omega)]
 rw [a7,a6,a5,a4,a3,a2,a1]
 simp only [List.cons.injEq,and_true]
 omega
noncomputable def MH:List SV→Option (SV×List Blk×Bool)
 | [.int .i64 n]=>some (.ro true .u8 (Ae.dS (Ae.W n)),[],decide (0≤n)&&decide (n.toNat<9223372036854775808))
 |_=>none
noncomputable def Xl:Entry Tryz.prog:=.val 118 _ Tryz.func118 (by decide) rfl false 0 MH fun vs v new e=>by
 unfold MH at e
 split at e
 ·rename_i n
  simp only [Option.some.injEq,Prod.mk.injEq,Bool.and_eq_true,decide_eq_true_eq] at e
  obtain ⟨rfl,rfl,h1,h2⟩:=e
  have k:=MF n
  rwa [MG h1 (by omega)] at k
 ·cases e
noncomputable def MI:List SV→Option (SV×List Blk×Bool)
 | [.agg [.ints .u8 32 key],.ro false .u8 text]=>some (.agg [.ints .u8 16 (Ae.gn key text)],[],decide (key.length=32)&&iH key&&iH text&&decide (text.length<100000000))
 |_=>none
noncomputable def Xm:Entry Tryz.prog:=.val 119 _ Tryz.func119 (by decide) rfl true 0 MI fun vs v new e=>by
 unfold MI at e
 split at e
 ·simp only [Option.some.injEq,Prod.mk.injEq,Bool.and_eq_true,decide_eq_true_eq,bF] at e
  obtain ⟨rfl,rfl,⟨⟨h1,h2⟩,h3⟩,h4⟩:=e
  rw [←ME h1 h2 h3]
  exact MA h1 h2 h3 h4
 ·cases e
def f1 (n:Int):Int:=Ae.W (n.tdiv 256)
def yU (u:Int):List Int:=[0,0,0,0,IntKind.u8.wrap (u.tmod 256),IntKind.u8.wrap ((f1 u).tmod 256),IntKind.u8.wrap ((f1 (f1 u)).tmod 256),IntKind.u8.wrap ((f1 (f1 (f1 u))).tmod 256),IntKind.u8.wrap ((f1 (f1 (f1 (f1 u)))).tmod 256),IntKind.u8.wrap ((f1 (f1 (f1 (f1 (f1 u))))).tmod 256),IntKind.u8.wrap ((f1 (f1 (f1 (f1 (f1 (f1 u)))))).tmod 256),IntKind.u8.wrap ((f1 (f1 (f1 (f1 (f1 (f1 (f1 u))))))).tmod 256)]
theorem GN (n:Int):aj Tryz.prog 45 [.int .i64 n] [] (.ro true .u8 (yU (Ae.W n))) []:=
 aj.frozen (N:=12) (ex:=false) (wh:=true) (dF (cH fun i=>if i=18 then some true else none) 200 Tryz.func45 (args:=[.int .i64 n]) (h:=[]) 1 (by simp) (v:=.sl 0 0 0 1 12 12 false true) (h1:=[.b [.ints .u8 12 (yU (Ae.W n))]]) (p:=true) (by kernel_rfl) rfl rfl rfl) rfl
theorem vA {n:Int} (h0:0≤n) (h1:n<18446744073709551616):f1 n=n/256:=by
 unfold f1
 rw [dY h0,sP]
 omega
theorem GO {n:Int} (h0:0≤n) (h1:n<18446744073709551616):yU n=[0,0,0,0]++Ae.dS n:=by
 have t:∀{m:Int},0≤m→IntKind.u8.wrap (m.tmod 256)=m%256:=fun h=>by rw [Fe.wrap_u8,cT h];omega
 have a1:=vA h0 h1
 have a2:=vA (n:=f1 n) (by omega) (by omega)
 have a3:=vA (n:=f1 (f1 n)) (by omega) (by omega)
 have a4:=vA (n:=f1 (f1 (f1 n))) (by omega) (by omega)
 have a5:=vA (n:=f1 (f1 (f1 (f1 n)))) (by omega) (by omega)
 have a6:=vA (n:=f1 (f1 (f1 (f1 (f1 n))))) (by omega) (by omega)
 have a7:=vA (n:=f1 (f1 (f1 (f1 (f1 (f1 n)))))) (by omega) (by omega)
 rw [tq]
 unfold yU
 rw [t h0,t (m:=f1 n) (by omega),t (m:=f1 (f1 n)) (by omega),t (m:=f1 (f1 (f1 n))) (by omega),t (m:=f1 (f1 (f1 (f1 n)))) (by omega),t (m:=f1 (f1 (f1 (f1 (f1 n))))) (by omega),t (m:=f1 (f1 (f1 (f1 (f1 (f1 n)))))) (by omega),t (m:=f1 (f1 (f1 (f1 (f1 (f1 (f1 n))))))) (by omega)]
 rw [a7,a6,a5,a4,a3,a2,a1]
 simp only [List.cons_append,List.nil_append,List.cons.injEq,and_true,true_and]
 omega
noncomputable def Fi:List SV→Option (SV×List Blk×Bool)
 | [.int .i64 n]=>some (.ro true .u8 (Ae.di n),[],true)
 |_=>none
noncomputable def Oi:Entry Tryz.prog:=.val 45 _ Tryz.func45 (by decide) rfl false 0 Fi fun vs v new e=>by
 unfold Fi at e
 split at e
 ·rename_i n
  cases e
  have k:=GN n
  have h:=Ae.GZ n
  rwa [GO h.1 h.2] at k
 ·cases e
end Go.Proofs.YtibfpjeeanppjaaGreat.R4
end
section
namespace Go.Proofs.YtibfpjeeanppjaaGreat.R4
open Go Go.Sy Sh
noncomputable def Bt:Code:=aH Tryz.f77
noncomputable def Dj (f:Nat→Option Bool):bK:=mk (P:=Tryz.prog) [R3.rD,Xl,Xm] [] f
theorem gA (f:Nat→Option Bool):ag Tryz.prog (Dj f):=ai _ aF.nil _ _
noncomputable def Bu (key p ctx mixed:List Int):St:=⟨slotsOf 61 [(2,.ro false .u8 ctx),(3,.ro false .u8 mixed),(8,.ptr 1 0 0),(9,.ptr 2 0 0),(11,.ptr 3 0 0),(12,.int .i64 0)],[.b [.ints .u8 32 key],.b [.ints .u8 16 (List.replicate 16 0)],.b [.ints .u8 64 p],.b [.ints .u8 32 (List.replicate 32 0)]],true⟩
noncomputable def rL (key p k ctx mixed:List Int) (m:Nat) (l:List Int):St:=⟨slotsOf 61 [(2,.ro false .u8 ctx),(3,.ro false .u8 mixed),(8,.ptr 1 0 0),(11,.ptr 3 0 0),(13,.sl 4 0 0 1 m m false true)],[.b [.ints .u8 32 key],.b [.ints .u8 16 (List.replicate 16 0)],.b [.ints .u8 64 p],.b [.ints .u8 32 k],.b [.ints .u8 m l]],true⟩
def Xn:Nat→Option Bool:=fun i=>if i=31||i=35||i=38||i=41||i=45||i=48||i=53||i=59 then some true else none
def maZ:Nat→Option Bool:=fun i=>if i=35||i=45 then some false else none
def Xo (l:List Int) (m n:Nat):Bool:=aa (aa (aa true (decide (l.length=m)&&(decide (m≤m)&&true))) (decide (l.length=m))) (decide (m+n≤274877906944))
theorem m9 {l:List Int} {m n:Nat} (h:l.length=m) (h2:m+n≤274877906944):Xo l m n=true:=by
 unfold Xo
 rw [decide_eq_true h,decide_eq_true h2,decide_eq_true (Nat.le_refl _)];rfl
def maE (k l:List Int) (m:Nat) (mixed:List Int):Bool:=
 aa (aa (aa true (aa true (true&&decide ((mixed.length:Int).toNat<9223372036854775808)))) (Xo l m (Ae.dS (Ae.W (mixed.length:Int))).length))
  (aa (aa true (aa (decide ((l++Ae.dS (Ae.W (mixed.length:Int))).length=m+(Ae.dS (Ae.W (mixed.length:Int))).length)&&(decide (m+(Ae.dS (Ae.W (mixed.length:Int))).length≤m+(Ae.dS (Ae.W (mixed.length:Int))).length)&&true)) (decide ((l++Ae.dS (Ae.W (mixed.length:Int))).length=m+(Ae.dS (Ae.W (mixed.length:Int))).length))))
   (decide (k.length=32)&&iH k&&iH (l++Ae.dS (Ae.W (mixed.length:Int)))&&decide ((l++Ae.dS (Ae.W (mixed.length:Int))).length<100000000)))
section
variable (key af ctx mixed p k l:List Int) (m:Nat)
theorem xj:(az Tryz.prog (Dj Xn) 60 0 4 (atoms Bt) ⟨aT Tryz.f77.ntmps [.agg [.ints .u8 32 key],.ro false .u8 af,.ro false .u8 ctx,.ro false .u8 mixed],[],true⟩).bind (St.cut [2,3,8,9,11,12] 4)=
  some {Bu key (Cc.eA key af 0) ctx mixed with ob:=aa true (aa true (decide (key.length=32)&&dD key&&decide (af.length=12)&&dD af&&true&&true))}:=by kernel_rfl
theorem ahf:(az Tryz.prog (Dj Xn) 200 0 2 ((atoms Bt).drop 4) (Bu key p ctx mixed)).bind (St.cut [2,3,8,11,13] 5)=
  some {rL key p (aO 32 p) ctx mixed (0+ctx.length) ([]++ctx) with ob:=aa true (aa true (decide (0+ctx.length≤274877906944)))}:=by kernel_rfl
theorem ahg:(exec Tryz.prog (Dj Xn) 60 0 (inner (inner (ak 6 Bt))) (rL key p k ctx mixed m l)).bind (fun r=>(r.2.cut [2,3,8,11,13] 5).map fun q=>(r.1,q))=
  some (.normal,{rL key p k ctx mixed (m+1) (l++[0]) with ob:=aa (aa true ((m:Int).tmod 16 != 0)) (Xo l m 1)}):=by kernel_rfl
theorem acs:(exec Tryz.prog (Dj maZ) 60 0 (inner (inner (ak 6 Bt))) (rL key p k ctx mixed m l)).bind (fun r=>(r.2.cut [2,3,8,11,13] 5).map fun q=>(r.1,q))=
  some (.exit 2,{rL key p k ctx mixed m l with ob:=aa true (!((m:Int).tmod 16 != 0))}):=by kernel_rfl
theorem ahh:(exec Tryz.prog (Dj Xn) 60 0 (ak 7 Bt) (rL key p k ctx mixed m l)).bind (fun r=>(r.2.cut [2,3,8,11,13] 5).map fun q=>(r.1,q))=
  some (.normal,{rL key p k ctx mixed (m+mixed.length) (l++mixed) with ob:=aa true (Xo l m mixed.length)}):=by kernel_rfl
theorem ahi:(exec Tryz.prog (Dj Xn) 60 0 (inner (inner (ak 8 Bt))) (rL key p k ctx mixed m l)).bind (fun r=>(r.2.cut [2,3,8,11,13] 5).map fun q=>(r.1,q))=
  some (.normal,{rL key p k ctx mixed (m+1) (l++[0]) with ob:=aa (aa true ((m:Int).tmod 16 != 0)) (Xo l m 1)}):=by kernel_rfl
theorem acu:(exec Tryz.prog (Dj maZ) 60 0 (inner (inner (ak 8 Bt))) (rL key p k ctx mixed m l)).bind (fun r=>(r.2.cut [2,3,8,11,13] 5).map fun q=>(r.1,q))=
  some (.exit 4,{rL key p k ctx mixed m l with ob:=aa true (!((m:Int).tmod 16 != 0))}):=by kernel_rfl
theorem ahj:(exec Tryz.prog (Dj Xn) 60 0 (ak 9 Bt) (rL key p k ctx mixed m l)).bind (fun r=>(r.2.cut [2,3,8,11,13] 5).map fun q=>(r.1,q))=
  some (.normal,{rL key p k ctx mixed (m+(Ae.dS (Ae.W (ctx.length:Int))).length) (l++Ae.dS (Ae.W (ctx.length:Int))) with ob:=aa (aa true (aa true (true&&decide ((ctx.length:Int).toNat<9223372036854775808)))) (Xo l m (Ae.dS (Ae.W (ctx.length:Int))).length)}):=by kernel_rfl
end
theorem yV (m:Nat):((m:Int).tmod 16 != 0)=decide (m%16≠0):=by
 rw [cT (by omega)]
 by_cases h:m%16=0
 ·rw [show (m:Int)%16=0 by omega];simp [h]
 ·have:(m:Int)%16≠0:=by omega
  simp [h,this]
theorem rI (m:Nat):(m+Ae.ju (m:Int))%16=0∧∀j,j<Ae.ju (m:Int)→(m+j)%16≠0:=by
 unfold Ae.ju
 refine ⟨by omega,fun j hj=>by omega⟩
theorem vB (l:List Int) (j:Nat):l++List.replicate (j+1) 0=(l++List.replicate j 0)++[0]:=by rw [List.append_assoc,List.replicate_succ']
theorem MJ {key p k ctx mixed l:List Int} (hl:l.length<274877000000):Tr Tryz.prog none 0 (ak 6 Bt) (rL key p k ctx mixed l.length l) .normal (rL key p k ctx mixed (l.length+Ae.ju (l.length:Int)) (l++List.replicate (Ae.ju (l.length:Int)) 0)):=by
 obtain ⟨f1,f2⟩:=rI l.length
 have hk:Ae.ju (l.length:Int)<16:=(Ae.oA (n:=(l.length:Int)) (by omega)).2
 have jS:=Tr.loop (P:=Tryz.prog) (ro:=none) (k:=0) 2 (c:=ak 6 Bt) (by kernel_rfl) (fun j:Nat=>rL key p k ctx mixed (l.length+j) (l++List.replicate j 0)) (Ae.ju (l.length:Int)) (s':=rL key p k ctx mixed (l.length+Ae.ju (l.length:Int)) (l++List.replicate (Ae.ju (l.length:Int)) 0)) (fun j hj=>?_) ?_
 ·rw [List.replicate_zero,List.append_nil] at jS
  exact jS
 ·have e:=ahg key ctx mixed p k (l++List.replicate j 0) (l.length+j)
  rw [yV,decide_eq_true (f2 j hj),m9 (by simp) (by omega), ←vB] at e
  exact Tr.post (Tr.cut (gA _) 60 _ 5 (by omega) e rfl) (aU.same rfl rfl)
 ·have e:=acs key ctx mixed p k (l++List.replicate (Ae.ju (l.length:Int)) 0) (l.length+Ae.ju (l.length:Int))
  rw [yV,decide_eq_false (by rw [f1];exact fun h=>h rfl)] at e
  exact Tr.cut (gA _) 60 _ 5 (by omega) e rfl
theorem MK {key p k ctx mixed l:List Int} (hl:l.length<274877000000):Tr Tryz.prog none 0 (ak 8 Bt) (rL key p k ctx mixed l.length l) .normal (rL key p k ctx mixed (l.length+Ae.ju (l.length:Int)) (l++List.replicate (Ae.ju (l.length:Int)) 0)):=by
 obtain ⟨f1,f2⟩:=rI l.length
 have hk:Ae.ju (l.length:Int)<16:=(Ae.oA (n:=(l.length:Int)) (by omega)).2
 have jS:=Tr.loop (P:=Tryz.prog) (ro:=none) (k:=0) 4 (c:=ak 8 Bt) (by kernel_rfl) (fun j:Nat=>rL key p k ctx mixed (l.length+j) (l++List.replicate j 0)) (Ae.ju (l.length:Int)) (s':=rL key p k ctx mixed (l.length+Ae.ju (l.length:Int)) (l++List.replicate (Ae.ju (l.length:Int)) 0)) (fun j hj=>?_) ?_
 ·rw [List.replicate_zero,List.append_nil] at jS
  exact jS
 ·have e:=ahi key ctx mixed p k (l++List.replicate j 0) (l.length+j)
  rw [yV,decide_eq_true (f2 j hj),m9 (by simp) (by omega), ←vB] at e
  exact Tr.post (Tr.cut (gA _) 60 _ 5 (by omega) e rfl) (aU.same rfl rfl)
 ·have e:=acu key ctx mixed p k (l++List.replicate (Ae.ju (l.length:Int)) 0) (l.length+Ae.ju (l.length:Int))
  rw [yV,decide_eq_false (by rw [f1];exact fun h=>h rfl)] at e
  exact Tr.cut (gA _) 60 _ 5 (by omega) e rfl
theorem qw (n:Int):(Ae.dS n).length=8:=by simp [Ae.dS]
theorem yW (n:Int):Dg (Ae.dS n):=fun z hz=>by
 unfold Ae.dS at hz
 obtain ⟨i,_,rfl⟩:=List.mem_map.1 hz
 rw [Fe.wrap_u8]
 omega
theorem Q1 (a b:Nat) (h:a%16=0):Ae.ju ((a+b:Nat):Int)=Ae.ju (b:Int):=by unfold Ae.ju;omega
theorem acv (key af:List Int) (n:Int):Dg (Cc.eA key af n):=fun z hz=>by
 simp only [Cc.eA,aq,Cc.RR,List.mem_map] at hz
 obtain ⟨j,_,rfl⟩:=hz
 show 0≤IntKind.u8.wrap _∧IntKind.u8.wrap _<256
 rw [Fe.wrap_u8]
 exact ⟨Int.emod_nonneg _ (by decide),Int.emod_lt_of_pos _ (by decide)⟩
theorem acw {l:List Int} (h:32≤l.length):aO 32 l=l.take 32:=by
 have:=jc (n:=32) (m:=32) (Nat.le_refl _) l
 rw [aJ (show (l.take 32).length=32 by rw [List.length_take];omega),List.take_of_length_le (Nat.le_of_eq (aI 32 l))] at this
 exact this.symm
theorem Xp {key p k ctx mixed l:List Int} {m:Nat} {args:List SV} (ho:maE k l m mixed=true)
  (ht:∀s' x,aG Tryz.prog none 0 ((atoms (aH Tryz.f77)).drop 10) (rL key p k ctx mixed m l) x s'→aG Tryz.prog none 0 (atoms (aH Tryz.f77)) ⟨aT Tryz.f77.ntmps args,[],true⟩ x s'):
  aj Tryz.prog 77 args [] (.agg [.ints .u8 16 (Ae.gn k (l++Ae.dS (Ae.W (mixed.length:Int))))]) []:=
 aj.cg (gA Xn) 60 10 0 Tryz.func77 (by simp) rfl ht (p:=maE k l m mixed) (by kernel_rfl) ho rfl rfl
theorem ML {key af ctx mixed:List Int} (hk:key.length=32) (dk:Dg key) (hn:af.length=12) (dn:Dg af) (dc:Dg ctx) (dm:Dg mixed) (hl:ctx.length+mixed.length<50000000):
  aj Tryz.prog 77 [.agg [.ints .u8 32 key],.ro false .u8 af,.ro false .u8 ctx,.ro false .u8 mixed] [] (.agg [.ints .u8 16 (Ae.sy key af ctx mixed)]) []:=by
 have hp:=Cc.Dn key af 0
 have ahk:((Cc.eA key af 0).take 32).length=32:=by rw [List.length_take,hp];rfl
 have hfc:=(Ae.oA (n:=(ctx.length:Int)) (by omega)).2
 have hfm:=(Ae.oA (n:=(mixed.length:Int)) (by omega)).2
 have c1:(ctx++List.replicate (Ae.ju (ctx.length:Int)) 0).length=ctx.length+Ae.ju (ctx.length:Int):=by simp
 have B6:(ctx.length+Ae.ju (ctx.length:Int))%16=0:=(rI ctx.length).1
 let l1:=ctx++List.replicate (Ae.ju (ctx.length:Int)) 0
 let l2:=l1++mixed
 let l3:=l2++List.replicate (Ae.ju (mixed.length:Int)) 0
 let l4:=l3++Ae.dS (Ae.W (ctx.length:Int))
 have e1:l1.length=ctx.length+Ae.ju (ctx.length:Int):=c1
 have e2:l2.length=l1.length+mixed.length:=List.length_append
 have e3:l3.length=l2.length+Ae.ju (mixed.length:Int):=by show (l2++_).length=_;simp
 have e4:l4.length=l3.length+8:=by show (l3++_).length=_;rw [List.length_append,qw]
 have hT:Ae.sy key af ctx mixed=Ae.gn ((Cc.eA key af 0).take 32) (l4++Ae.dS (Ae.W (mixed.length:Int))):=by
  unfold Ae.sy Ae.zj
  show _=Ae.gn _ (((((ctx++List.replicate (Ae.ju (ctx.length:Int)) 0)++mixed)++List.replicate (Ae.ju (mixed.length:Int)) 0)++Ae.dS (Ae.W (ctx.length:Int)))++Ae.dS (Ae.W (mixed.length:Int)))
  simp only [List.flatten_cons,List.flatten_nil,List.append_nil,List.append_assoc]
 have d4:Dg l4:=(((dc.app (qp _)).app dm).app (qp _)).app (yW _)
 rw [hT]
 have ho:maE ((Cc.eA key af 0).take 32) l4 l4.length mixed=true:=by
  unfold maE
  rw [m9 rfl (by rw [qw];omega),ahk,bF.2 ((acv key af 0).take 32),bF.2 (d4.app (yW _)),List.length_append,qw]
  simp [au]
  omega
 refine Xp (key:=key) (p:=Cc.eA key af 0) (ctx:=ctx) ho fun s' x h=>?_
 have hh:=xj key af ctx mixed
 have uk:dD key=true:=bF.2 dk
 have un:dD af=true:=bF.2 dn
 rw [hk,uk,hn,un] at hh
 refine aG.items (gA _) 60 4 _ 4 (by simp) hh rfl (by decide) ?_
 have hk2:=ahf key ctx mixed (Cc.eA key af 0)
 rw [acw (by omega),Nat.zero_add,List.nil_append,decide_eq_true (show ctx.length≤274877906944 by omega)] at hk2
 refine aG.items (gA _) 200 2 _ 5 (by omega) hk2 rfl (by decide) ?_
 rw [List.drop_drop]
 refine aG.item 6 (by decide) (MJ (by omega)) ?_
 have k2:=ahh key ctx mixed (Cc.eA key af 0) ((Cc.eA key af 0).take 32) l1 l1.length
 rw [m9 rfl (by omega)] at k2
 rw [←e1]
 refine aG.item 7 (by decide) (Tr.cut (gA _) 60 _ 5 (by omega) k2 rfl) ?_
 have k3:=MK (key:=key) (p:=Cc.eA key af 0) (k:=(Cc.eA key af 0).take 32) (ctx:=ctx) (mixed:=mixed) (l:=l2) (by omega)
 have hf:Ae.ju (l2.length:Int)=Ae.ju (mixed.length:Int):=by
  rw [e2,e1]
  exact Q1 _ _ B6
 rw [hf, ←e3,e2] at k3
 refine aG.item 8 (by decide) k3 ?_
 have k4:=ahj key ctx mixed (Cc.eA key af 0) ((Cc.eA key af 0).take 32) l3 l3.length
 rw [m9 rfl (by rw [qw];omega),qw,Int.toNat_natCast,decide_eq_true (show ctx.length<9223372036854775808 by omega)] at k4
 refine aG.item 9 (by decide) (Tr.cut (gA _) 60 _ 5 (by omega) k4 rfl) ?_
 rw [e4] at h
 exact h
noncomputable def tF:List SV→Option (SV×List Blk×Bool)
 | [.agg [.ints .u8 32 key],.ro false .u8 af,.ro false .u8 ctx,.ro false .u8 mixed]=>some (.agg [.ints .u8 16 (Ae.sy key af ctx mixed)],[],decide (key.length=32)&&iH key&&decide (af.length=12)&&iH af&&iH ctx&&iH mixed&&decide (ctx.length+mixed.length<50000000))
 |_=>none
noncomputable def xl:Entry Tryz.prog:=.val 77 _ Tryz.func77 (by decide) rfl true 0 tF fun vs v new e=>by
 unfold tF at e
 split at e
 ·simp only [Option.some.injEq,Prod.mk.injEq,Bool.and_eq_true,decide_eq_true_eq,bF] at e
  obtain ⟨rfl,rfl,⟨⟨⟨⟨⟨h1,h2⟩,h3⟩,h4⟩,h5⟩,h6⟩,h7⟩:=e
  exact ML h1 h2 h3 h4 h5 h6 h7
 ·cases e
end Go.Proofs.YtibfpjeeanppjaaGreat.R4
end
