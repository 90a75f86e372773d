/- This file holds the texts R4J, R4K, a section each. No conditions beyond those in the theorems. -/
import Derived.Test.YtibfpjeeanppjaaGreatYR4I
set_option linter.all false
set_option maxRecDepth 100000
section
namespace Go.Proofs.YtibfpjeeanppjaaGreat.R4
open Go Go.Sy Sh
def e1 (n:Int):Int:=J (n.tdiv 256)
def AW (n:Int):List Int:=[IntKind.u8.wrap (n.tmod 256),IntKind.u8.wrap ((e1 n).tmod 256),IntKind.u8.wrap ((e1 (e1 n)).tmod 256),IntKind.u8.wrap ((e1 (e1 (e1 n))).tmod 256),IntKind.u8.wrap ((e1 (e1 (e1 (e1 n)))).tmod 256),IntKind.u8.wrap ((e1 (e1 (e1 (e1 (e1 n))))).tmod 256),IntKind.u8.wrap ((e1 (e1 (e1 (e1 (e1 (e1 n)))))).tmod 256),IntKind.u8.wrap ((e1 (e1 (e1 (e1 (e1 (e1 (e1 n))))))).tmod 256)]
theorem OX (n:Int):ai Tryz.prog 118 [.int .i64 n] [] (.ro true .u8 (AW n)) []:=
 ai.frozen (N:=8) (ex:=false) (wh:=true) (ai.KE [1] (aQ (cg fun i=>if i=14 then some true else none) 200 Tryz.func118 (args:=[.int .i64 n]) (h:=[]) 2 (by simp) (v:=.sl 1 0 0 1 8 8 false true) (h1:=[.b [.ints .u8 1 [IntKind.u8.wrap (n.tmod 256)]],.b [.ints .u8 8 (AW n)]]) (p:=true) (by kernel_rfl) rfl rfl rfl) (by kernel_rfl)) rfl
theorem xD {n:Int} (h0:0≤n) (h1:n<9223372036854775808):e1 n=n/256:=by
 unfold e1
 rw [eA h0]
 exact wrap_i64 _ (by omega) (by omega)
theorem OY {n:Int} (h0:0≤n) (h1:n<9223372036854775808):AW n=Ae.eI (Ae.W n):=by
 have t:∀{m:Int},0≤m→IntKind.u8.wrap (m.tmod 256)=m%256:=fun h=>by rw [Fe.wrap_u8,cY h];omega
 have a1:=xD h0 h1
 have a2:=xD (n:=e1 n) (by omega) (by omega)
 have a3:=xD (n:=e1 (e1 n)) (by omega) (by omega)
 have a4:=xD (n:=e1 (e1 (e1 n))) (by omega) (by omega)
 have a5:=xD (n:=e1 (e1 (e1 (e1 n)))) (by omega) (by omega)
 have a6:=xD (n:=e1 (e1 (e1 (e1 (e1 n))))) (by omega) (by omega)
 have a7:=xD (n:=e1 (e1 (e1 (e1 (e1 (e1 n)))))) (by omega) (by omega)
 rw [vk,uF]
 unfold AW
 rw [t h0,t (m:=e1 n) (by omega),t (m:=e1 (e1 n)) (by omega),t (m:=e1 (e1 (e1 n))) (by omega),t (m:=e1 (e1 (e1 (e1 n)))) (by omega),t (m:=e1 (e1 (e1 (e1 (e1 n))))) (by omega),t (m:=e1 (e1 (e1 (e1 (e1 (e1 n)))))) (by omega),t (m:=e1 (e1 (e1 (e1 (e1 (e1 (e1 n))))))) (by omega)]
 rw [a7,a6,a5,a4,a3,a2,a1]
 simp only [List.cons.injEq,and_true]
 omega
noncomputable def OZ:List SV→Option (SV×List Blk×Bool)
 | [.int .i64 n]=>some (.ro true .u8 (Ae.eI (Ae.W n)),[],decide (0≤n)&&decide (n.toNat<9223372036854775808))
 |_=>none
noncomputable def aaq:Entry Tryz.prog:=.val 118 _ Tryz.func118 (by decide) rfl false 0 OZ fun vs v new e=>by
 unfold OZ at e
 split at e
 ·rename_i n
  simp only [Option.some.injEq,Prod.mk.injEq,Bool.and_eq_true,decide_eq_true_eq] at e
  obtain ⟨rfl,rfl,h1,h2⟩:=e
  have k:=OX n
  rwa [OY h1 (by omega)] at k
 ·cases e
noncomputable def O5:List SV→Option (SV×List Blk×Bool)
 | [.agg [.ints .u8 32 key],.ro false .u8 text]=>some (.agg [.ints .u8 16 (Ae.jO key text)],[],decide (key.length=32)&&dK key&&dK text&&decide (text.length<100000000))
 |_=>none
noncomputable def aar:Entry Tryz.prog:=.val 119 _ Tryz.func119 (by decide) rfl true 0 O5 fun vs v new e=>by
 unfold O5 at e
 split at e
 ·simp only [Option.some.injEq,Prod.mk.injEq,Bool.and_eq_true,decide_eq_true_eq,aY] at e
  obtain ⟨rfl,rfl,⟨⟨h1,h2⟩,h3⟩,h4⟩:=e
  rw [←OW h1 h2 h3]
  exact OS h1 h2 h3 h4
 ·cases e
def f1 (n:Int):Int:=Ae.W (n.tdiv 256)
def AX (u:Int):List Int:=[0,0,0,0,IntKind.u8.wrap (u.tmod 256),IntKind.u8.wrap ((f1 u).tmod 256),IntKind.u8.wrap ((f1 (f1 u)).tmod 256),IntKind.u8.wrap ((f1 (f1 (f1 u))).tmod 256),IntKind.u8.wrap ((f1 (f1 (f1 (f1 u)))).tmod 256),IntKind.u8.wrap ((f1 (f1 (f1 (f1 (f1 u))))).tmod 256),IntKind.u8.wrap ((f1 (f1 (f1 (f1 (f1 (f1 u)))))).tmod 256),IntKind.u8.wrap ((f1 (f1 (f1 (f1 (f1 (f1 (f1 u))))))).tmod 256)]
theorem Jv (n:Int):ai Tryz.prog 45 [.int .i64 n] [] (.ro true .u8 (AX (Ae.W n))) []:=
 ai.frozen (N:=12) (ex:=false) (wh:=true) (aQ (cg fun i=>if i=18 then some true else none) 200 Tryz.func45 (args:=[.int .i64 n]) (h:=[]) 1 (by simp) (v:=.sl 0 0 0 1 12 12 false true) (h1:=[.b [.ints .u8 12 (AX (Ae.W n))]]) (p:=true) (by kernel_rfl) rfl rfl rfl) rfl
theorem xE {n:Int} (h0:0≤n) (h1:n<18446744073709551616):f1 n=n/256:=by
 unfold f1
 rw [eA h0,uF]
 omega
theorem Jw {n:Int} (h0:0≤n) (h1:n<18446744073709551616):AX n=[0,0,0,0]++Ae.eI n:=by
 have t:∀{m:Int},0≤m→IntKind.u8.wrap (m.tmod 256)=m%256:=fun h=>by rw [Fe.wrap_u8,cY h];omega
 have a1:=xE h0 h1
 have a2:=xE (n:=f1 n) (by omega) (by omega)
 have a3:=xE (n:=f1 (f1 n)) (by omega) (by omega)
 have a4:=xE (n:=f1 (f1 (f1 n))) (by omega) (by omega)
 have a5:=xE (n:=f1 (f1 (f1 (f1 n)))) (by omega) (by omega)
 have a6:=xE (n:=f1 (f1 (f1 (f1 (f1 n))))) (by omega) (by omega)
 have a7:=xE (n:=f1 (f1 (f1 (f1 (f1 (f1 n)))))) (by omega) (by omega)
 rw [vk]
 unfold AX
 rw [t h0,t (m:=f1 n) (by omega),t (m:=f1 (f1 n)) (by omega),t (m:=f1 (f1 (f1 n))) (by omega),t (m:=f1 (f1 (f1 (f1 n)))) (by omega),t (m:=f1 (f1 (f1 (f1 (f1 n))))) (by omega),t (m:=f1 (f1 (f1 (f1 (f1 (f1 n)))))) (by omega),t (m:=f1 (f1 (f1 (f1 (f1 (f1 (f1 n))))))) (by omega)]
 rw [a7,a6,a5,a4,a3,a2,a1]
 simp only [List.cons_append,List.nil_append,List.cons.injEq,and_true,true_and]
 omega
noncomputable def HS:List SV→Option (SV×List Blk×Bool)
 | [.int .i64 n]=>some (.ro true .u8 (Ae.aI n),[],true)
 |_=>none
noncomputable def zd:Entry Tryz.prog:=.val 45 _ Tryz.func45 (by decide) rfl false 0 HS fun vs v new e=>by
 unfold HS at e
 split at e
 ·rename_i n
  cases e
  have k:=Jv n
  have h:=Ae.JI n
  rwa [Jw h.1 h.2] at k
 ·cases e
end Go.Proofs.YtibfpjeeanppjaaGreat.R4
end
section
namespace Go.Proofs.YtibfpjeeanppjaaGreat.R4
open Go Go.Sy Sh
noncomputable def DJ:Code:=aE Tryz.f77
noncomputable def Fz (f:Nat→Option Bool):bu:=mk (P:=Tryz.prog) [R3.tj,aaq,aar] [] f
theorem gZ (f:Nat→Option Bool):ag Tryz.prog (Fz f):=ah _ au.nil _ _
noncomputable def DK (key p ctx mixed:List Int):St:=⟨slotsOf 61 [(2,.ro false .u8 ctx),(3,.ro false .u8 mixed),(8,.ptr 1 0 0),(9,.ptr 2 0 0),(11,.ptr 3 0 0),(12,.int .i64 0)],[.b [.ints .u8 32 key],.b [.ints .u8 16 (List.replicate 16 0)],.b [.ints .u8 64 p],.b [.ints .u8 32 (List.replicate 32 0)]],true⟩
noncomputable def tE (key p k ctx mixed:List Int) (m:Nat) (l:List Int):St:=⟨slotsOf 61 [(2,.ro false .u8 ctx),(3,.ro false .u8 mixed),(8,.ptr 1 0 0),(11,.ptr 3 0 0),(13,.sl 4 0 0 1 m m false true)],[.b [.ints .u8 32 key],.b [.ints .u8 16 (List.replicate 16 0)],.b [.ints .u8 64 p],.b [.ints .u8 32 k],.b [.ints .u8 m l]],true⟩
def maA:Nat→Option Bool:=fun i=>if i=31||i=35||i=38||i=41||i=45||i=48||i=53||i=59 then some true else none
def maZ:Nat→Option Bool:=fun i=>if i=35||i=45 then some false else none
def apN (l:List Int) (m n:Nat):Bool:=aa (aa (aa true (decide (l.length=m)&&(decide (m≤m)&&true))) (decide (l.length=m))) (decide (m+n≤274877906944))
theorem ov {l:List Int} {m n:Nat} (h:l.length=m) (h2:m+n≤274877906944):apN l m n=true:=by
 unfold apN
 rw [decide_eq_true h,decide_eq_true h2,decide_eq_true (Nat.le_refl _)];rfl
def maE (k l:List Int) (m:Nat) (mixed:List Int):Bool:=
 aa (aa (aa true (aa true (true&&decide ((mixed.length:Int).toNat<9223372036854775808)))) (apN l m (Ae.eI (Ae.W (mixed.length:Int))).length))
  (aa (aa true (aa (decide ((l++Ae.eI (Ae.W (mixed.length:Int))).length=m+(Ae.eI (Ae.W (mixed.length:Int))).length)&&(decide (m+(Ae.eI (Ae.W (mixed.length:Int))).length≤m+(Ae.eI (Ae.W (mixed.length:Int))).length)&&true)) (decide ((l++Ae.eI (Ae.W (mixed.length:Int))).length=m+(Ae.eI (Ae.W (mixed.length:Int))).length))))
   (decide (k.length=32)&&dK k&&dK (l++Ae.eI (Ae.W (mixed.length:Int)))&&decide ((l++Ae.eI (Ae.W (mixed.length:Int))).length<100000000)))
section
variable (key af ctx mixed p k l:List Int) (m:Nat)
theorem y5:(aW Tryz.prog (Fz maA) 60 0 4 (atoms DJ) ⟨aO Tryz.f77.ntmps [.agg [.ints .u8 32 key],.ro false .u8 af,.ro false .u8 ctx,.ro false .u8 mixed],[],true⟩).bind (St.cut [2,3,8,9,11,12] 4)=
  some {DK key (Cc.fq key af 0) ctx mixed with ob:=aa true (aa true (decide (key.length=32)&&bE key&&decide (af.length=12)&&bE af&&true&&true))}:=by kernel_rfl
theorem akQ:(aW Tryz.prog (Fz maA) 200 0 2 ((atoms DJ).drop 4) (DK key p ctx mixed)).bind (St.cut [2,3,8,11,13] 5)=
  some {tE key p (aH 32 p) ctx mixed (0+ctx.length) ([]++ctx) with ob:=aa true (aa true (decide (0+ctx.length≤274877906944)))}:=by kernel_rfl
theorem akR:(exec Tryz.prog (Fz maA) 60 0 (inner (inner (aA 6 DJ))) (tE key p k ctx mixed m l)).bind (fun r=>(r.2.cut [2,3,8,11,13] 5).map fun q=>(r.1,q))=
  some (.normal,{tE key p k ctx mixed (m+1) (l++[0]) with ob:=aa (aa true ((m:Int).tmod 16 != 0)) (apN l m 1)}):=by kernel_rfl
theorem af4:(exec Tryz.prog (Fz maZ) 60 0 (inner (inner (aA 6 DJ))) (tE key p k ctx mixed m l)).bind (fun r=>(r.2.cut [2,3,8,11,13] 5).map fun q=>(r.1,q))=
  some (.exit 2,{tE key p k ctx mixed m l with ob:=aa true (!((m:Int).tmod 16 != 0))}):=by kernel_rfl
theorem akS:(exec Tryz.prog (Fz maA) 60 0 (aA 7 DJ) (tE key p k ctx mixed m l)).bind (fun r=>(r.2.cut [2,3,8,11,13] 5).map fun q=>(r.1,q))=
  some (.normal,{tE key p k ctx mixed (m+mixed.length) (l++mixed) with ob:=aa true (apN l m mixed.length)}):=by kernel_rfl
theorem akT:(exec Tryz.prog (Fz maA) 60 0 (inner (inner (aA 8 DJ))) (tE key p k ctx mixed m l)).bind (fun r=>(r.2.cut [2,3,8,11,13] 5).map fun q=>(r.1,q))=
  some (.normal,{tE key p k ctx mixed (m+1) (l++[0]) with ob:=aa (aa true ((m:Int).tmod 16 != 0)) (apN l m 1)}):=by kernel_rfl
theorem af5:(exec Tryz.prog (Fz maZ) 60 0 (inner (inner (aA 8 DJ))) (tE key p k ctx mixed m l)).bind (fun r=>(r.2.cut [2,3,8,11,13] 5).map fun q=>(r.1,q))=
  some (.exit 4,{tE key p k ctx mixed m l with ob:=aa true (!((m:Int).tmod 16 != 0))}):=by kernel_rfl
theorem akU:(exec Tryz.prog (Fz maA) 60 0 (aA 9 DJ) (tE key p k ctx mixed m l)).bind (fun r=>(r.2.cut [2,3,8,11,13] 5).map fun q=>(r.1,q))=
  some (.normal,{tE key p k ctx mixed (m+(Ae.eI (Ae.W (ctx.length:Int))).length) (l++Ae.eI (Ae.W (ctx.length:Int))) with ob:=aa (aa true (aa true (true&&decide ((ctx.length:Int).toNat<9223372036854775808)))) (apN l m (Ae.eI (Ae.W (ctx.length:Int))).length)}):=by kernel_rfl
end
theorem AY (m:Nat):((m:Int).tmod 16 != 0)=decide (m%16≠0):=by
 rw [cY (by omega)]
 by_cases h:m%16=0
 ·rw [show (m:Int)%16=0 by omega];simp [h]
 ·have:(m:Int)%16≠0:=by omega
  simp [h,this]
theorem tw (m:Nat):(m+Ae.jP (m:Int))%16=0∧∀j,j<Ae.jP (m:Int)→(m+j)%16≠0:=by
 unfold Ae.jP
 refine ⟨by omega,fun j hj=>by omega⟩
theorem xF (l:List Int) (j:Nat):l++List.replicate (j+1) 0=(l++List.replicate j 0)++[0]:=by rw [List.append_assoc,List.replicate_succ']
theorem O6 {key p k ctx mixed l:List Int} (hl:l.length<274877000000):Tr Tryz.prog none 0 (aA 6 DJ) (tE key p k ctx mixed l.length l) .normal (tE key p k ctx mixed (l.length+Ae.jP (l.length:Int)) (l++List.replicate (Ae.jP (l.length:Int)) 0)):=by
 obtain ⟨f1,f2⟩:=tw l.length
 have hk:Ae.jP (l.length:Int)<16:=(Ae.pO (n:=(l.length:Int)) (by omega)).2
 have j9:=Tr.loop (P:=Tryz.prog) (ro:=none) (k:=0) 2 (c:=aA 6 DJ) (by kernel_rfl) (fun j:Nat=>tE key p k ctx mixed (l.length+j) (l++List.replicate j 0)) (Ae.jP (l.length:Int)) (s':=tE key p k ctx mixed (l.length+Ae.jP (l.length:Int)) (l++List.replicate (Ae.jP (l.length:Int)) 0)) (fun j hj=>?_) ?_
 ·rw [List.replicate_zero,List.append_nil] at j9
  exact j9
 ·have e:=akR key ctx mixed p k (l++List.replicate j 0) (l.length+j)
  rw [AY,decide_eq_true (f2 j hj),ov (by simp) (by omega), ←xF] at e
  exact Tr.post (Tr.cut (gZ _) 60 _ 5 (by omega) e rfl) (bq.same rfl rfl)
 ·have e:=af4 key ctx mixed p k (l++List.replicate (Ae.jP (l.length:Int)) 0) (l.length+Ae.jP (l.length:Int))
  rw [AY,decide_eq_false (by rw [f1];exact fun h=>h rfl)] at e
  exact Tr.cut (gZ _) 60 _ 5 (by omega) e rfl
theorem O7 {key p k ctx mixed l:List Int} (hl:l.length<274877000000):Tr Tryz.prog none 0 (aA 8 DJ) (tE key p k ctx mixed l.length l) .normal (tE key p k ctx mixed (l.length+Ae.jP (l.length:Int)) (l++List.replicate (Ae.jP (l.length:Int)) 0)):=by
 obtain ⟨f1,f2⟩:=tw l.length
 have hk:Ae.jP (l.length:Int)<16:=(Ae.pO (n:=(l.length:Int)) (by omega)).2
 have j9:=Tr.loop (P:=Tryz.prog) (ro:=none) (k:=0) 4 (c:=aA 8 DJ) (by kernel_rfl) (fun j:Nat=>tE key p k ctx mixed (l.length+j) (l++List.replicate j 0)) (Ae.jP (l.length:Int)) (s':=tE key p k ctx mixed (l.length+Ae.jP (l.length:Int)) (l++List.replicate (Ae.jP (l.length:Int)) 0)) (fun j hj=>?_) ?_
 ·rw [List.replicate_zero,List.append_nil] at j9
  exact j9
 ·have e:=akT key ctx mixed p k (l++List.replicate j 0) (l.length+j)
  rw [AY,decide_eq_true (f2 j hj),ov (by simp) (by omega), ←xF] at e
  exact Tr.post (Tr.cut (gZ _) 60 _ 5 (by omega) e rfl) (bq.same rfl rfl)
 ·have e:=af5 key ctx mixed p k (l++List.replicate (Ae.jP (l.length:Int)) 0) (l.length+Ae.jP (l.length:Int))
  rw [AY,decide_eq_false (by rw [f1];exact fun h=>h rfl)] at e
  exact Tr.cut (gZ _) 60 _ 5 (by omega) e rfl
theorem r9 (n:Int):(Ae.eI n).length=8:=by simp [Ae.eI]
theorem AZ (n:Int):Dg (Ae.eI n):=fun z hz=>by
 unfold Ae.eI at hz
 obtain ⟨i,_,rfl⟩:=List.mem_map.1 hz
 rw [Fe.wrap_u8]
 omega
theorem TQ (a b:Nat) (h:a%16=0):Ae.jP ((a+b:Nat):Int)=Ae.jP (b:Int):=by unfold Ae.jP;omega
theorem af6 (key af:List Int) (n:Int):Dg (Cc.fq key af n):=fun z hz=>by
 simp only [Cc.fq,aD,Cc.WR,List.mem_map] at hz
 obtain ⟨j,_,rfl⟩:=hz
 show 0≤IntKind.u8.wrap _∧IntKind.u8.wrap _<256
 rw [Fe.wrap_u8]
 exact ⟨Int.emod_nonneg _ (by decide),Int.emod_lt_of_pos _ (by decide)⟩
theorem af7 {l:List Int} (h:32≤l.length):aH 32 l=l.take 32:=by
 have:=gk (n:=32) (m:=32) (Nat.le_refl _) l
 rw [aG (show (l.take 32).length=32 by rw [List.length_take];omega),List.take_of_length_le (Nat.le_of_eq (aM 32 l))] at this
 exact this.symm
theorem aau {key p k ctx mixed l:List Int} {m:Nat} {args:List SV} (ho:maE k l m mixed=true)
  (ht:∀s' x,bf Tryz.prog none 0 ((atoms (aE Tryz.f77)).drop 10) (tE key p k ctx mixed m l) x s'→bf Tryz.prog none 0 (atoms (aE Tryz.f77)) ⟨aO Tryz.f77.ntmps args,[],true⟩ x s'):
  ai Tryz.prog 77 args [] (.agg [.ints .u8 16 (Ae.jO k (l++Ae.eI (Ae.W (mixed.length:Int))))]) []:=
 ai.cu (gZ maA) 60 10 0 Tryz.func77 (by simp) rfl ht (p:=maE k l m mixed) (by kernel_rfl) ho rfl rfl
theorem O8 {key af ctx mixed:List Int} (hk:key.length=32) (dk:Dg key) (hn:af.length=12) (dn:Dg af) (dc:Dg ctx) (dm:Dg mixed) (hl:ctx.length+mixed.length<50000000):
  ai Tryz.prog 77 [.agg [.ints .u8 32 key],.ro false .u8 af,.ro false .u8 ctx,.ro false .u8 mixed] [] (.agg [.ints .u8 16 (Ae.uo key af ctx mixed)]) []:=by
 have hp:=Cc.FD key af 0
 have akV:((Cc.fq key af 0).take 32).length=32:=by rw [List.length_take,hp];rfl
 have hfc:=(Ae.pO (n:=(ctx.length:Int)) (by omega)).2
 have hfm:=(Ae.pO (n:=(mixed.length:Int)) (by omega)).2
 have c1:(ctx++List.replicate (Ae.jP (ctx.length:Int)) 0).length=ctx.length+Ae.jP (ctx.length:Int):=by simp
 have Ei:(ctx.length+Ae.jP (ctx.length:Int))%16=0:=(tw ctx.length).1
 let l1:=ctx++List.replicate (Ae.jP (ctx.length:Int)) 0
 let l2:=l1++mixed
 let l3:=l2++List.replicate (Ae.jP (mixed.length:Int)) 0
 let l4:=l3++Ae.eI (Ae.W (ctx.length:Int))
 have e1:l1.length=ctx.length+Ae.jP (ctx.length:Int):=c1
 have e2:l2.length=l1.length+mixed.length:=List.length_append
 have e3:l3.length=l2.length+Ae.jP (mixed.length:Int):=by show (l2++_).length=_;simp
 have e4:l4.length=l3.length+8:=by show (l3++_).length=_;rw [List.length_append,r9]
 have hT:Ae.uo key af ctx mixed=Ae.jO ((Cc.fq key af 0).take 32) (l4++Ae.eI (Ae.W (mixed.length:Int))):=by
  unfold Ae.uo Ae.DN
  show _=Ae.jO _ (((((ctx++List.replicate (Ae.jP (ctx.length:Int)) 0)++mixed)++List.replicate (Ae.jP (mixed.length:Int)) 0)++Ae.eI (Ae.W (ctx.length:Int)))++Ae.eI (Ae.W (mixed.length:Int)))
  simp only [List.flatten_cons,List.flatten_nil,List.append_nil,List.append_assoc]
 have d4:Dg l4:=(((dc.app (rZ _)).app dm).app (rZ _)).app (AZ _)
 rw [hT]
 have ho:maE ((Cc.fq key af 0).take 32) l4 l4.length mixed=true:=by
  unfold maE
  rw [ov rfl (by rw [r9];omega),akV,aY.2 ((af6 key af 0).take 32),aY.2 (d4.app (AZ _)),List.length_append,r9]
  simp [av]
  omega
 refine aau (key:=key) (p:=Cc.fq key af 0) (ctx:=ctx) ho fun s' x h=>?_
 have hh:=y5 key af ctx mixed
 have uk:bE key=true:=aY.2 dk
 have un:bE af=true:=aY.2 dn
 rw [hk,uk,hn,un] at hh
 refine bf.items (gZ _) 60 4 _ 4 (by simp) hh rfl (by decide) ?_
 have hk2:=akQ key ctx mixed (Cc.fq key af 0)
 rw [af7 (by omega),Nat.zero_add,List.nil_append,decide_eq_true (show ctx.length≤274877906944 by omega)] at hk2
 refine bf.items (gZ _) 200 2 _ 5 (by omega) hk2 rfl (by decide) ?_
 rw [List.drop_drop]
 refine bf.item 6 (by decide) (O6 (by omega)) ?_
 have k2:=akS key ctx mixed (Cc.fq key af 0) ((Cc.fq key af 0).take 32) l1 l1.length
 rw [ov rfl (by omega)] at k2
 rw [←e1]
 refine bf.item 7 (by decide) (Tr.cut (gZ _) 60 _ 5 (by omega) k2 rfl) ?_
 have k3:=O7 (key:=key) (p:=Cc.fq key af 0) (k:=(Cc.fq key af 0).take 32) (ctx:=ctx) (mixed:=mixed) (l:=l2) (by omega)
 have hf:Ae.jP (l2.length:Int)=Ae.jP (mixed.length:Int):=by
  rw [e2,e1]
  exact TQ _ _ Ei
 rw [hf, ←e3,e2] at k3
 refine bf.item 8 (by decide) k3 ?_
 have k4:=akU key ctx mixed (Cc.fq key af 0) ((Cc.fq key af 0).take 32) l3 l3.length
 rw [ov rfl (by rw [r9];omega),r9,Int.toNat_natCast,decide_eq_true (show ctx.length<9223372036854775808 by omega)] at k4
 refine bf.item 9 (by decide) (Tr.cut (gZ _) 60 _ 5 (by omega) k4 rfl) ?_
 rw [e4] at h
 exact h
noncomputable def vv:List SV→Option (SV×List Blk×Bool)
 | [.agg [.ints .u8 32 key],.ro false .u8 af,.ro false .u8 ctx,.ro false .u8 mixed]=>some (.agg [.ints .u8 16 (Ae.uo key af ctx mixed)],[],decide (key.length=32)&&dK key&&decide (af.length=12)&&dK af&&dK ctx&&dK mixed&&decide (ctx.length+mixed.length<50000000))
 |_=>none
noncomputable def y7:Entry Tryz.prog:=.val 77 _ Tryz.func77 (by decide) rfl true 0 vv fun vs v new e=>by
 unfold vv at e
 split at e
 ·simp only [Option.some.injEq,Prod.mk.injEq,Bool.and_eq_true,decide_eq_true_eq,aY] at e
  obtain ⟨rfl,rfl,⟨⟨⟨⟨⟨h1,h2⟩,h3⟩,h4⟩,h5⟩,h6⟩,h7⟩:=e
  exact O8 h1 h2 h3 h4 h5 h6 h7
 ·cases e
end Go.Proofs.YtibfpjeeanppjaaGreat.R4
end
