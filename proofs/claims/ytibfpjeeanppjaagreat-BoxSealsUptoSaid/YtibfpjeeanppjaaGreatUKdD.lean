/- This file holds the texts KdC, KdD, a section each. No conditions beyond those in the theorems. -/
import Derived.Test.YtibfpjeeanppjaaGreatUKdB
set_option linter.all false
set_option maxRecDepth 100000
section
namespace Go.Proofs.YtibfpjeeanppjaaGreat.Kd
open Go Go.Sy Sh
noncomputable def Z8:bK:=mk (P:=Tryz.prog) [tgE] [] fun i=>if i=11||i=14 then some false else none
theorem xE:ag Tryz.prog Z8:=ai _ aF.nil _ _
noncomputable def xp1 (sec info:List Int) (N:Nat):St:=⟨slotsOf 36 [(0,.ro false .u8 sec),(1,.ro false .u8 info),(5,.ptr 0 0 0)],[.b [.int .i64 N]],true⟩
noncomputable def xp2 (sec info:List Int) (N:Nat):St:=⟨U6,[.b [.int .i64 N],.b [.ints .u8 N (List.replicate N 0)],.b [.sl 1 0 0 1 0 N true false],.b [.ro false .u8 sec],.b [.ro false .u8 info]],true⟩
noncomputable def Z9 (l:List Int) (N:Nat):St:=⟨slotsOf 36 [(6,.sl 1 0 0 1 N N false false),(7,.nl .nilIface)],[.b [.int .i64 N],.b [.ints .u8 N l]],true⟩
def U9 (N:Nat):Bool:=aa (aa true (!decide ((N:Int)>8160))) (true&&IntKind.i64.wrap (N:Int)==(N:Int)&&(true&&decide ((1:Int)*(N:Int)≤281474976710656)))
section
variable (sec info l:List Int) (N:Nat)
theorem aaa:(az Tryz.prog Z8 60 0 1 (atoms xpB) ⟨aT Tryz.f109.ntmps [.ro false .u8 sec,.ro false .u8 info,.int .i64 N],[],true⟩).bind (St.cut [0,1,5] 1)=some (xp1 sec info N):=by kernel_rfl
theorem aab:(az Tryz.prog Z8 60 0 5 (atoms Z1) (xp1 sec info N)).bind (St.cut [5,8,21] 5)=some {xp2 sec info N with ob:=U9 N}:=by kernel_rfl
theorem aac:(az Tryz.prog Z8 60 0 1 ((atoms Z1).drop 6) ⟨U6,G9 sec info l N N none,true⟩).bind (St.cut [6,7] 2)=some (Z9 l N):=by kernel_rfl
theorem aad:nY Tryz.prog Z8 60 0 (((atoms Z1).drop 6).drop 1) (Z9 l N)=some (.ret,Z9 l N):=by kernel_rfl
end
theorem Va:Sw= .block 0 (.rangeFunc (rfG (inner Sw)) (rfP (inner Sw)) (rfA (inner Sw)) (ZH (inner Sw))):=by kernel_rfl
theorem JG:ak 1 xpB= .scope Z1:=by kernel_rfl
theorem OT (sec info:List Int) (N:Nat):aU 0 (xp2 sec info N) ⟨U6,Z4 sec info (za sec info N 0) 0 N,true⟩:=by
 have e:List.replicate N (0:Int)=za sec info N 0:=by simp [za,Sz]
 unfold xp2
 rw [e]
 refine aU.ZT ⟨PE.refl _,PE.refl _,⟨rfl,?_⟩,PE.refl _,PE.refl _,trivial⟩
 rintro e xs ⟨y,zs,hy,hz,rfl⟩
 refine ⟨y,zs,?_,hz,rfl⟩
 rcases hy with h|⟨p,c,a,h1,h2,h3,h4,_,h6,h7⟩
 ·exact .inl h
 ·exact .inr ⟨p,c,a,h1,h2,h3,h4,(by simp),h6,h7⟩
theorem FX {N:Nat} (hN:N≤8160):U9 N=true:=by
 unfold U9
 rw [wrap_i64 _ (by omega) (by omega),decide_eq_false (show ¬((N:Int)>8160) by omega),decide_eq_true (show (1:Int)*(N:Int)≤281474976710656 by omega),beq_self_eq_true]
 rfl
theorem wu {sec info:List Int} {N:Nat} (hs:sec.length<274877900000) (hi:info.length<270000000000) (hN:N≤8160):
  aj Tryz.prog 109 [.ro false .u8 sec,.ro false .u8 info,.int .i64 N] [] (.bk [.ro true .u8 (b7 sec info N),.nl .nilIface]) []:=by
 have hw:=rT sec info N
 have BS:Tr Tryz.prog none 0 Sw ⟨U6,Z4 sec info (za sec info N 0) 0 N,true⟩ .normal ⟨U6,G9 sec info (b7 sec info N) N N none,true⟩:=by
  rw [Va]
  refine Tr.block ?_
  exact Tr.range (q:=some (.exit 0)) (first:=[]) (jX:=[.ptr 3 0 0,.ptr 4 0 0]) (v:=.bk []) true Tryz.func166 (by decide) rfl (by kernel_rfl) (h1:=fun l=>G9 sec info (b7 sec info N) N N (some (Sx l))) (fun l=>Z7 hs hi hN l) (fun l=>⟨Sx l,by kernel_rfl,by kernel_rfl,by simp [Sx],by kernel_rfl⟩) (fun l=>rfl) rfl
 have hin:Tr Tryz.prog none 0 (ak 1 xpB) (xp1 sec info N) .ret (Z9 (b7 sec info N) N):=by
  rw [JG]
  refine Tr.scope (Tr.aD ?_) (by simp)
  refine aG.items xE 60 5 _ 5 (by simp) (aab sec info N) (FX hN) (by decide) ?_
  refine aG.pre ?_ (OT sec info N) (by decide)
  refine aG.item 5 (by decide) BS ?_
  refine aG.items xE 60 1 _ 2 (by simp) (aac sec info _ N) rfl (by decide) ?_
  exact aG.rest xE 60 (aad _ N) rfl
 have k:aj Tryz.prog 109 [.ro false .u8 sec,.ro false .u8 info,.int .i64 N] [] (.bk [.sl 1 0 0 1 N N false false,.nl .nilIface]) [.b [.int .i64 N],.b [.ints .u8 N (b7 sec info N)]]:=by
  refine aj.mk (vs:=[.sl 1 0 0 1 N N false false,.nl .nilIface]) Tryz.func109 rfl (x:=.ret) (s:=Z9 (b7 sec info N) N) ?_ (.inl rfl) (by kernel_rfl)
  refine aG.items xE 60 1 _ 1 (by simp) (aaa sec info N) rfl (by decide) ?_
  exact aG.leave 1 (by decide) (by simp) hin
 have k3:=aj.fz 1 0 (by simp) (by simp) k (u:=.bk [.ro true .u8 (((b7 sec info N).drop 0).take N),.nl .nilIface]) (h2:=[]) (p:=aa (decide ((b7 sec info N).length=N)) (decide (0+N≤N)&&true)) (by kernel_rfl) (by rw [hw,Nat.zero_add,decide_eq_true rfl,decide_eq_true (Nat.le_refl _)];rfl)
 rw [List.drop_zero,List.take_of_length_le (by omega)] at k3
 exact k3
noncomputable def DK:List SV→Option (SV×List Blk×Bool)
 | [.ro false .u8 sec,.ro false .u8 info,.int .i64 n]=>some (.bk [.ro true .u8 (b7 sec info n.toNat),.nl .nilIface],[],decide (sec.length<274877900000)&&decide (info.length<270000000000)&&decide (0≤n)&&decide (n≤8160))
 | [.ro false .u8 sec,.nl (.slice none 0 0),.int .i64 n]=>some (.bk [.ro true .u8 (b7 sec [] n.toNat),.nl .nilIface],[],decide (sec.length<274877900000)&&decide (0≤n)&&decide (n≤8160))
 |_=>none
noncomputable def OU:Entry Tryz.prog:=.val 109 _ Tryz.func109 (by decide) rfl true 0 DK fun vs v new e=>by
 unfold DK at e
 split at e
 ·rename_i sec info n
  simp only [Option.some.injEq,Prod.mk.injEq,Bool.and_eq_true,decide_eq_true_eq] at e
  obtain ⟨rfl,rfl,⟨⟨h1,h2⟩,h3⟩,h4⟩:=e
  have k:=wu (N:=n.toNat) h1 h2 (by omega)
  rw [Int.toNat_of_nonneg h3] at k
  exact k
 ·rename_i sec n
  simp only [Option.some.injEq,Prod.mk.injEq,Bool.and_eq_true,decide_eq_true_eq] at e
  obtain ⟨rfl,rfl,⟨h1,h3⟩,h4⟩:=e
  have k:=wu (info:=[]) (N:=n.toNat) h1 (by simp) (by omega)
  rw [Int.toNat_of_nonneg h3] at k
  exact aj.conv k ⟨VE.refl _,VE.BH _ _,VE.refl _,trivial⟩ trivial (VE.refl _) trivial
 ·cases e
end Go.Proofs.YtibfpjeeanppjaaGreat.Kd
end
section
namespace Go.Proofs.YtibfpjeeanppjaaGreat.Kd
open Go Go.Sy Sh
def nQ (lb ctx:List Int) (n:Int):List Int:=[[IntKind.u8.wrap (bh .i64 n 8),IntKind.u8.wrap n,IntKind.u8.wrap lb.length],lb,[IntKind.u8.wrap (bh .i64 ctx.length 24),IntKind.u8.wrap (bh .i64 ctx.length 16),IntKind.u8.wrap (bh .i64 ctx.length 8),IntKind.u8.wrap ctx.length],ctx].flatten
noncomputable def inC:bK:=mk (P:=Tryz.prog) [js] []
theorem Vb:ag Tryz.prog inC:=ai _ aF.nil _ _
theorem JH (lb ctx:List Int) (n:Int):(nQ lb ctx n).length=7+lb.length+ctx.length:=by
 simp [nQ];omega
def aae:List SV→Option (SV×List Blk×Bool)
 | [.str lb,.ro false .u8 ctx,.int .i64 n]=>some (.ro true .u8 (nQ lb ctx n),[],decide ((nQ lb ctx n).length≤274877906944))
 |_=>none
theorem Vc {lb ctx:List Int} {n:Int} (h:(nQ lb ctx n).length≤274877906944):aj Tryz.prog 110 [.str lb,.ro false .u8 ctx,.int .i64 n] [] (.ro true .u8 (nQ lb ctx n)) []:=
 aP Vb 60 Tryz.func110 (p:=aa true (aa true (decide ((nQ lb ctx n).length≤274877906944)&&true))) (by kernel_rfl) (by rw [decide_eq_true h];rfl) rfl
noncomputable def afp:Entry Tryz.prog:=.val 110 _ Tryz.func110 (by decide) rfl true 0 aae fun vs v new e=>by
 unfold aae at e
 split at e
 ·simp only [Option.some.injEq,Prod.mk.injEq,decide_eq_true_eq] at e
  obtain ⟨rfl,rfl,h⟩:=e
  exact Vc h
 ·cases e
noncomputable def laC:bK:=mk (P:=Tryz.prog) [afp,OU] [] fun i=>if i=13||i=18||i=22||i=25 then some false else none
theorem Vd:ag Tryz.prog laC:=ai _ aF.nil _ _
noncomputable def ij (sec lb ctx:List Int) (n:Nat):List Int:=b7 sec (nQ lb ctx n) n
theorem kP (sec lb ctx:List Int) (n:Nat):(ij sec lb ctx n).length=n:=rT _ _ _
def laO (sec lb ctx:List Int) (n:Int):Bool:=aa (aa (aa (aa (aa (aa true (!decide ((lb.length:Int)>255))) (!decide ((ctx.length:Int)>65536))) (!decide (n<0))) (!decide (n>8160))) (aa true (decide ((nQ lb ctx n).length≤274877906944))))
 (aa (aa (decide (sec.length=32)&&true) (decide (sec.length=32))) (decide (sec.length<274877900000)&&decide ((nQ lb ctx n).length<270000000000)&&decide (0≤n)&&decide (n≤8160)))
theorem JI {sec lb ctx:List Int} {n:Int} (hs:sec.length=32) (hl:lb.length≤255) (hc:ctx.length≤65536) (h0:0≤n) (h1:n≤8160):laO sec lb ctx n=true:=by
 unfold laO
 rw [JH,hs,decide_eq_false (show ¬(lb.length:Int)>255 by omega),decide_eq_false (show ¬(ctx.length:Int)>65536 by omega),decide_eq_false (show ¬n<0 by omega),decide_eq_false (show ¬n>8160 by omega),
  decide_eq_true (show 7+lb.length+ctx.length≤274877906944 by omega),decide_eq_true (show 7+lb.length+ctx.length<270000000000 by omega),decide_eq_true h0,decide_eq_true h1]
 rfl
theorem JJ {sec lb ctx:List Int} {n:Nat} (hs:sec.length=32) (hl:lb.length≤255) (hc:ctx.length≤65536) (h1:n≤8160):aj Tryz.prog 69 [.agg [.ints .u8 32 sec],.str lb,.ro false .u8 ctx,.int .i64 n] [] (.bk [.ro true .u8 (ij sec lb ctx n),.nl .nilIface]) []:=
 aP Vd 60 Tryz.func69 (p:=laO sec lb ctx n) (by kernel_rfl) (JI hs hl hc (by omega) (by omega)) rfl
noncomputable def JK:List SV→Option (SV×List Blk×Bool)
 | [.agg [.ints .u8 32 sec],.str lb,.ro false .u8 ctx,.int .i64 n]=>some (.bk [.ro true .u8 (ij sec lb ctx n.toNat),.nl .nilIface],[],decide (sec.length=32)&&decide (lb.length≤255)&&decide (ctx.length≤65536)&&decide (n.toNat≤8160)&&decide (0≤n))
 |_=>none
noncomputable def Uo:Entry Tryz.prog:=.val 69 _ Tryz.func69 (by decide) rfl true 0 JK fun vs v new e=>by
 unfold JK at e
 split at e
 ·rename_i sec lb ctx n
  simp only [Option.some.injEq,Prod.mk.injEq,Bool.and_eq_true,decide_eq_true_eq] at e
  obtain ⟨rfl,rfl,⟨⟨⟨h1,h2⟩,h3⟩,h4⟩,h5⟩:=e
  have k:=JJ (n:=n.toNat) h1 h2 h3 h4
  rw [Int.toNat_of_nonneg h5] at k
  exact k
 ·cases e
end Go.Proofs.YtibfpjeeanppjaaGreat.Kd
namespace Go.Proofs.YtibfpjeeanppjaaGreat.Q2
open Go Go.Sy Sh
def xx (info:List Int):List Int:=info++[1]
theorem pO (sec info:List Int):Kd.b7 sec info 32=Kd.ej sec (xx info):=by
 unfold Kd.b7
 rw [show (32-1)/32=0 from rfl,show 32-32*0=32 from rfl]
 have h:Kd.zO sec info (0+1)=Kd.ej sec (xx info):=by
  show Kd.ej sec [[],info,[1]].flatten=_
  congr 1
 rw [h,List.take_of_length_le (by rw [Kd.mc];omega)]
 rfl
end Go.Proofs.YtibfpjeeanppjaaGreat.Q2
end
