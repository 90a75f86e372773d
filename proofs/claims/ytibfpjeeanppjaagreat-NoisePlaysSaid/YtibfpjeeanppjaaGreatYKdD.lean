/- This file holds the texts KdC, KdD, a section each. No conditions beyond those in the theorems. -/
import Derived.Test.YtibfpjeeanppjaaGreatYKdB
set_option linter.all false
set_option maxRecDepth 100000
section
namespace Go.Proofs.YtibfpjeeanppjaaGreat.Kd
open Go Go.Sy Sh
noncomputable def xhC:bu:=mk (P:=Tryz.prog) [tgE] [] fun i=>if i=11||i=14 then some false else none
theorem zu:ag Tryz.prog xhC:=ah _ au.nil _ _
noncomputable def xp1 (sec info:List Int) (N:Nat):St:=⟨slotsOf 36 [(0,.ro false .u8 sec),(1,.ro false .u8 info),(5,.ptr 0 0 0)],[.b [.int .i64 N]],true⟩
noncomputable def xp2 (sec info:List Int) (N:Nat):St:=⟨Xn,[.b [.int .i64 N],.b [.ints .u8 N (List.replicate N 0)],.b [.sl 1 0 0 1 0 N true false],.b [.ro false .u8 sec],.b [.ro false .u8 info]],true⟩
noncomputable def xp3 (l:List Int) (N:Nat):St:=⟨slotsOf 36 [(6,.sl 1 0 0 1 N N false false),(7,.nl .nilIface)],[.b [.int .i64 N],.b [.ints .u8 N l]],true⟩
def Xq (N:Nat):Bool:=aa (aa true (!decide ((N:Int)>8160))) (true&&IntKind.i64.wrap (N:Int)==(N:Int)&&(true&&decide ((1:Int)*(N:Int)≤281474976710656)))
section
variable (sec info l:List Int) (N:Nat)
theorem ac2:(aW Tryz.prog xhC 60 0 1 (atoms xpB) ⟨aO Tryz.f109.ntmps [.ro false .u8 sec,.ro false .u8 info,.int .i64 N],[],true⟩).bind (St.cut [0,1,5] 1)=some (xp1 sec info N):=by kernel_rfl
theorem ac3:(aW Tryz.prog xhC 60 0 5 (atoms xpI) (xp1 sec info N)).bind (St.cut [5,8,21] 5)=some {xp2 sec info N with ob:=Xq N}:=by kernel_rfl
theorem ac4:(aW Tryz.prog xhC 60 0 1 ((atoms xpI).drop 6) ⟨Xn,JM sec info l N N none,true⟩).bind (St.cut [6,7] 2)=some (xp3 l N):=by kernel_rfl
theorem ac5:o9 Tryz.prog xhC 60 0 (((atoms xpI).drop 6).drop 1) (xp3 l N)=some (.ret,xp3 l N):=by kernel_rfl
end
theorem Xr:U0= .block 0 (.rangeFunc (rfG (inner U0)) (rfP (inner U0)) (rfA (inner U0)) (rfB (inner U0))):=by kernel_rfl
theorem KM:aA 1 xpB= .scope xpI:=by kernel_rfl
theorem Q1 (sec info:List Int) (N:Nat):bq 0 (xp2 sec info N) ⟨Xn,acW sec info (A9 sec info N 0) 0 N,true⟩:=by
 have e:List.replicate N (0:Int)=A9 sec info N 0:=by simp [A9,U2]
 unfold xp2
 rw [e]
 refine bq.acI ⟨PE.refl _,PE.refl _,⟨rfl,?_⟩,PE.refl _,PE.refl _,trivial⟩
 rintro e xs ⟨y,zs,hy,hz,rfl⟩
 refine ⟨y,zs,?_,hz,rfl⟩
 rcases hy with h|⟨p,c,a,h1,h2,h3,h4,_,h6,h7⟩
 ·exact .inl h
 ·exact .inr ⟨p,c,a,h1,h2,h3,h4,(by simp),h6,h7⟩
theorem Iu {N:Nat} (hN:N≤8160):Xq N=true:=by
 unfold Xq
 rw [wrap_i64 _ (by omega) (by omega),decide_eq_false (show ¬((N:Int)>8160) by omega),decide_eq_true (show (1:Int)*(N:Int)≤281474976710656 by omega),beq_self_eq_true]
 rfl
theorem ym {sec info:List Int} {N:Nat} (hs:sec.length<274877900000) (hi:info.length<270000000000) (hN:N≤8160):
  ai Tryz.prog 109 [.ro false .u8 sec,.ro false .u8 info,.int .i64 N] [] (.aT [.ro true .u8 (bp sec info N),.nl .nilIface]) []:=by
 have hw:=eO sec info N
 have DU:Tr Tryz.prog none 0 U0 ⟨Xn,acW sec info (A9 sec info N 0) 0 N,true⟩ .normal ⟨Xn,JM sec info (bp sec info N) N N none,true⟩:=by
  rw [Xr]
  refine Tr.block ?_
  exact Tr.range (q:=some (.exit 0)) (first:=[]) (kG:=[.ptr 3 0 0,.ptr 4 0 0]) (v:=.aT []) true Tryz.func166 (by decide) rfl (by kernel_rfl) (h1:=fun l=>JM sec info (bp sec info N) N N (some (U1 l))) (fun l=>acZ hs hi hN l) (fun l=>⟨U1 l,by kernel_rfl,by kernel_rfl,by simp [U1],by kernel_rfl⟩) (fun l=>rfl) rfl
 have hin:Tr Tryz.prog none 0 (aA 1 xpB) (xp1 sec info N) .ret (xp3 (bp sec info N) N):=by
  rw [KM]
  refine Tr.scope (Tr.ew ?_) (by simp)
  refine bf.items zu 60 5 _ 5 (by simp) (ac3 sec info N) (Iu hN) (by decide) ?_
  refine bf.pre ?_ (Q1 sec info N) (by decide)
  refine bf.item 5 (by decide) DU ?_
  refine bf.items zu 60 1 _ 2 (by simp) (ac4 sec info _ N) rfl (by decide) ?_
  exact bf.rest zu 60 (ac5 _ N) rfl
 have k:ai Tryz.prog 109 [.ro false .u8 sec,.ro false .u8 info,.int .i64 N] [] (.aT [.sl 1 0 0 1 N N false false,.nl .nilIface]) [.b [.int .i64 N],.b [.ints .u8 N (bp sec info N)]]:=by
  refine ai.mk (vs:=[.sl 1 0 0 1 N N false false,.nl .nilIface]) Tryz.func109 rfl (x:=.ret) (s:=xp3 (bp sec info N) N) ?_ (.inl rfl) (by kernel_rfl)
  refine bf.items zu 60 1 _ 1 (by simp) (ac2 sec info N) rfl (by decide) ?_
  exact bf.leave 1 (by decide) (by simp) hin
 have k3:=ai.fz 1 0 (by simp) (by simp) k (u:=.aT [.ro true .u8 (((bp sec info N).drop 0).take N),.nl .nilIface]) (h2:=[]) (p:=aa (decide ((bp sec info N).length=N)) (decide (0+N≤N)&&true)) (by kernel_rfl) (by rw [hw,Nat.zero_add,decide_eq_true rfl,decide_eq_true (Nat.le_refl _)];rfl)
 rw [List.drop_zero,List.take_of_length_le (by omega)] at k3
 exact k3
noncomputable def FZ:List SV→Option (SV×List Blk×Bool)
 | [.ro false .u8 sec,.ro false .u8 info,.int .i64 n]=>some (.aT [.ro true .u8 (bp sec info n.toNat),.nl .nilIface],[],decide (sec.length<274877900000)&&decide (info.length<270000000000)&&decide (0≤n)&&decide (n≤8160))
 | [.ro false .u8 sec,.nl (.slice none 0 0),.int .i64 n]=>some (.aT [.ro true .u8 (bp sec [] n.toNat),.nl .nilIface],[],decide (sec.length<274877900000)&&decide (0≤n)&&decide (n≤8160))
 |_=>none
noncomputable def FP:Entry Tryz.prog:=.val 109 _ Tryz.func109 (by decide) rfl true 0 FZ fun vs v new e=>by
 unfold FZ at e
 split at e
 ·rename_i sec info n
  simp only [Option.some.injEq,Prod.mk.injEq,Bool.and_eq_true,decide_eq_true_eq] at e
  obtain ⟨rfl,rfl,⟨⟨h1,h2⟩,h3⟩,h4⟩:=e
  have k:=ym (N:=n.toNat) h1 h2 (by omega)
  rw [Int.toNat_of_nonneg h3] at k
  exact k
 ·rename_i sec n
  simp only [Option.some.injEq,Prod.mk.injEq,Bool.and_eq_true,decide_eq_true_eq] at e
  obtain ⟨rfl,rfl,⟨h1,h3⟩,h4⟩:=e
  have k:=ym (info:=[]) (N:=n.toNat) h1 (by simp) (by omega)
  rw [Int.toNat_of_nonneg h3] at k
  exact ai.conv k ⟨VE.refl _,VE.sw _ _,VE.refl _,trivial⟩ trivial (VE.refl _) trivial
 ·cases e
end Go.Proofs.YtibfpjeeanppjaaGreat.Kd
end
section
namespace Go.Proofs.YtibfpjeeanppjaaGreat.Kd
open Go Go.Sy Sh
def ur (lb ctx:List Int) (n:Int):List Int:=[[IntKind.u8.wrap (bO .i64 n 8),IntKind.u8.wrap n,IntKind.u8.wrap lb.length],lb,[IntKind.u8.wrap (bO .i64 ctx.length 24),IntKind.u8.wrap (bO .i64 ctx.length 16),IntKind.u8.wrap (bO .i64 ctx.length 8),IntKind.u8.wrap ctx.length],ctx].flatten
noncomputable def inC:bu:=mk (P:=Tryz.prog) [jf] []
theorem Xs:ag Tryz.prog inC:=ah _ au.nil _ _
theorem KN (lb ctx:List Int) (n:Int):(ur lb ctx n).length=7+lb.length+ctx.length:=by
 simp [ur];omega
def ac6:List SV→Option (SV×List Blk×Bool)
 | [.str lb,.ro false .u8 ctx,.int .i64 n]=>some (.ro true .u8 (ur lb ctx n),[],decide ((ur lb ctx n).length≤274877906944))
 |_=>none
theorem Xt {lb ctx:List Int} {n:Int} (h:(ur lb ctx n).length≤274877906944):ai Tryz.prog 110 [.str lb,.ro false .u8 ctx,.int .i64 n] [] (.ro true .u8 (ur lb ctx n)) []:=
 aF Xs 60 Tryz.func110 (p:=aa true (aa true (decide ((ur lb ctx n).length≤274877906944)&&true))) (by kernel_rfl) (by rw [decide_eq_true h];rfl) rfl
noncomputable def aix:Entry Tryz.prog:=.val 110 _ Tryz.func110 (by decide) rfl true 0 ac6 fun vs v new e=>by
 unfold ac6 at e
 split at e
 ·simp only [Option.some.injEq,Prod.mk.injEq,decide_eq_true_eq] at e
  obtain ⟨rfl,rfl,h⟩:=e
  exact Xt h
 ·cases e
noncomputable def laC:bu:=mk (P:=Tryz.prog) [aix,FP] [] fun i=>if i=13||i=18||i=22||i=25 then some false else none
theorem Xu:ag Tryz.prog laC:=ah _ au.nil _ _
noncomputable def lM (sec lb ctx:List Int) (n:Nat):List Int:=bp sec (ur lb ctx n) n
theorem pQ (sec lb ctx:List Int) (n:Nat):(lM sec lb ctx n).length=n:=eO _ _ _
def laO (sec lb ctx:List Int) (n:Int):Bool:=aa (aa (aa (aa (aa (aa true (!decide ((lb.length:Int)>255))) (!decide ((ctx.length:Int)>65536))) (!decide (n<0))) (!decide (n>8160))) (aa true (decide ((ur lb ctx n).length≤274877906944))))
 (aa (aa (decide (sec.length=32)&&true) (decide (sec.length=32))) (decide (sec.length<274877900000)&&decide ((ur lb ctx n).length<270000000000)&&decide (0≤n)&&decide (n≤8160)))
theorem KO {sec lb ctx:List Int} {n:Int} (hs:sec.length=32) (hl:lb.length≤255) (hc:ctx.length≤65536) (h0:0≤n) (h1:n≤8160):laO sec lb ctx n=true:=by
 unfold laO
 rw [KN,hs,decide_eq_false (show ¬(lb.length:Int)>255 by omega),decide_eq_false (show ¬(ctx.length:Int)>65536 by omega),decide_eq_false (show ¬n<0 by omega),decide_eq_false (show ¬n>8160 by omega),
  decide_eq_true (show 7+lb.length+ctx.length≤274877906944 by omega),decide_eq_true (show 7+lb.length+ctx.length<270000000000 by omega),decide_eq_true h0,decide_eq_true h1]
 rfl
theorem KP {sec lb ctx:List Int} {n:Nat} (hs:sec.length=32) (hl:lb.length≤255) (hc:ctx.length≤65536) (h1:n≤8160):ai Tryz.prog 69 [.agg [.ints .u8 32 sec],.str lb,.ro false .u8 ctx,.int .i64 n] [] (.aT [.ro true .u8 (lM sec lb ctx n),.nl .nilIface]) []:=
 aF Xu 60 Tryz.func69 (p:=laO sec lb ctx n) (by kernel_rfl) (KO hs hl hc (by omega) (by omega)) rfl
noncomputable def KQ:List SV→Option (SV×List Blk×Bool)
 | [.agg [.ints .u8 32 sec],.str lb,.ro false .u8 ctx,.int .i64 n]=>some (.aT [.ro true .u8 (lM sec lb ctx n.toNat),.nl .nilIface],[],decide (sec.length=32)&&decide (lb.length≤255)&&decide (ctx.length≤65536)&&decide (n.toNat≤8160)&&decide (0≤n))
 |_=>none
noncomputable def WX:Entry Tryz.prog:=.val 69 _ Tryz.func69 (by decide) rfl true 0 KQ fun vs v new e=>by
 unfold KQ at e
 split at e
 ·rename_i sec lb ctx n
  simp only [Option.some.injEq,Prod.mk.injEq,Bool.and_eq_true,decide_eq_true_eq] at e
  obtain ⟨rfl,rfl,⟨⟨⟨h1,h2⟩,h3⟩,h4⟩,h5⟩:=e
  have k:=KP (n:=n.toNat) h1 h2 h3 h4
  rw [Int.toNat_of_nonneg h5] at k
  exact k
 ·cases e
end Go.Proofs.YtibfpjeeanppjaaGreat.Kd
namespace Go.Proofs.YtibfpjeeanppjaaGreat.Q2
open Go Go.Sy Sh
def BC (info:List Int):List Int:=info++[1]
theorem KR (sec info:List Int):Kd.bp sec info 32=Kd.bG sec (BC info):=by
 unfold Kd.bp
 rw [show (32-1)/32=0 from rfl,show 32-32*0=32 from rfl]
 have h:Kd.xR sec info (0+1)=Kd.bG sec (BC info):=by
  show Kd.bG sec [[],info,[1]].flatten=_
  congr 1
 rw [h,List.take_of_length_le (by rw [Kd.eM];omega)]
 rfl
end Go.Proofs.YtibfpjeeanppjaaGreat.Q2
end
