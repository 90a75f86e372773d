/- This file holds the texts S2A, S2B, a section each. No conditions beyond those in the theorems. -/
import Derived.Test.YthlnlcijnoadcaaGreatDoorFShH
set_option linter.all false
set_option maxRecDepth 100000
section
namespace Go.Proofs.YthlnlcijnoadcaaGreatDoor.S2
open Go Go.Sy Sh
abbrev V (n:Int):Int:=IntKind.u32.wrap n
theorem wrap_u32 (n:Int):IntKind.u32.wrap n=n%4294967296:=by simp [IntKind.wrap,IntKind.signed,IntKind.bits]
def rotN (x a:Int):Int:=orI .u32 (shlI .u32 x (andI .u64 (W a) 31).toNat) (shrI .u32 x (W (32-andI .u64 (W a) 31)).toNat)
def rotP (x a:Int):Int:=rotN x (IntKind.i64.wrap (0-a))
def tnP (x a b c:Int):Int:=xorI .u32 (xorI .u32 (rotP x a) (rotP x b)) (rotP x c)
def rotF:List SV→Option (SV×List Blk×Bool)
 | [.int .u32 x,.int .i64 a]=>some (.int .u32 (rotN x a),[],true)
 |_=>none
noncomputable def rotE:Entry Tryz.prog:=.val 248 _ Tryz.func248 (by decide) rfl false 0 rotF fun vs v new e=>by
 unfold rotF at e
 split at e
 ·rename_i x a
  cases e
  exact call0 ctr0 60 Tryz.func248 (p:=andT true (W0 (32-andI .u64 (W a) 31))) (by kernel_rfl) (by simp only [W0_true,andT_iff,and_self]) rfl
 ·cases e
noncomputable def tuC:Ctr:=mk (P:=Tryz.prog) [rotE] []
theorem tuC_ok:CtrSound Tryz.prog tuC:=mk_sound _ InlOK.nil _ _
def turnsF:List SV→Option (SV×List Blk×Bool)
 | [.int .u32 x,.int .i64 a,.int .i64 b,.int .i64 c]=>some (.int .u32 (tnP x a b c),[],true)
 |_=>none
noncomputable def turnsE:Entry Tryz.prog:=.val 249 _ Tryz.func249 (by decide) rfl false 0 turnsF fun vs v new e=>by
 unfold turnsF at e
 split at e
 ·rename_i x a b c
  cases e
  exact call0 tuC_ok 60 Tryz.func249 (p:=true) (by kernel_rfl) rfl rfl
 ·cases e
noncomputable def k32:List Int:=(List.range 64).map fun i=>V (shrI .u64 (kL.getD i 0) 32)
noncomputable def shC:Ctr:=mk (P:=Tryz.prog) [longsE] []
theorem shC_ok:CtrSound Tryz.prog shC:=mk_sound _ InlOK.nil _ _
noncomputable def shortsF:List SV→Option (SV×List Blk×Bool)
 | []=>some (.agg [.ints .u32 64 k32],[],true)
 |_=>none
noncomputable def shortsE:Entry Tryz.prog:=.val 209 _ Tryz.func209 (by decide) rfl false 0 shortsF fun vs v new e=>by
 unfold shortsF at e
 split at e
 ·cases e
  exact call0 shC_ok 200 Tryz.func209 (p:=true) (by kernel_rfl) rfl rfl
 ·cases e
def wd (p:List Int) (i:Nat):Int:=orI .u32 (orI .u32 (orI .u32 (shlI .u32 (V (p.getD (4*i) 0)) 24) (shlI .u32 (V (p.getD (4*i+1) 0)) 16)) (shlI .u32 (V (p.getD (4*i+2) 0)) 8)) (V (p.getD (4*i+3) 0))
def w16 (p:List Int):List Int:=(List.range 16).map (wd p)++List.replicate 48 0
def nxW (y x a b:Int):Int:=V (V (V (xorI .u32 (xorI .u32 (rotN y (-17)) (rotN y (-19))) (shrI .u32 y 10)+a)+xorI .u32 (xorI .u32 (rotN x (-7)) (rotN x (-18))) (shrI .u32 x 3))+b)
def sched (w:List Int):Nat→List Int
 |0=>w
 |j+1=>(sched w j).set (16+j) (nxW ((sched w j).getD (14+j) 0) ((sched w j).getD (1+j) 0) ((sched w j).getD (9+j) 0) ((sched w j).getD j 0))
def chW (e f g:Int):Int:=xorI .u32 (andI .u32 e f) (andI .u32 (xorI .u32 IntKind.u32.max e) g)
def mjW (a b c:Int):Int:=xorI .u32 (xorI .u32 (andI .u32 a b) (andI .u32 a c)) (andI .u32 b c)
def t1W (s:List Int) (k w:Int):Int:=V (V (V (V (s.getD 7 0+tnP (s.getD 4 0) 6 11 25)+chW (s.getD 4 0) (s.getD 5 0) (s.getD 6 0))+k)+w)
def t2W (s:List Int):Int:=V (tnP (s.getD 0 0) 2 13 22+mjW (s.getD 0 0) (s.getD 1 0) (s.getD 2 0))
def rndW (s:List Int) (k w:Int):List Int:=[V (t1W s k w+t2W s),s.getD 0 0,s.getD 1 0,s.getD 2 0,V (s.getD 3 0+t1W s k w),s.getD 4 0,s.getD 5 0,s.getD 6 0]
def rnds (s k w:List Int):Nat→List Int
 |0=>s
 |j+1=>rndW (rnds s k w j) (k.getD j 0) (w.getD j 0)
def sumW (s t:List Int):List Int:=(List.range 8).map fun i=>V (s.getD i 0+t.getD i 0)
noncomputable def pieceW (s p k:List Int):List Int:=Lock (sumW s (rnds s k (sched (w16 p) 48) 64))
noncomputable def wC (b c:Bool):Ctr:=mk (P:=Tryz.prog) [turnsE,rotE] [] fun i=>if i=58 then some b else if i=105 then some c else none
theorem wC_ok (b c:Bool):CtrSound Tryz.prog (wC b c):=mk_sound _ InlOK.nil _ _
noncomputable def wC0:Ctr:=mk (P:=Tryz.prog) [turnsE,rotE] []
theorem wC0_ok:CtrSound Tryz.prog wC0:=mk_sound _ InlOK.nil _ _
noncomputable def wB:Code:=bodyOf Tryz.f210
noncomputable def dg (st r:List Int) (n:Int):Blk:=.b [.ints .u32 8 st,.ro true .u8 r,.int .i64 n]
noncomputable def wS (st r:List Int) (n:Int) (kk w:List Int) (i:Int):St:=⟨slotsOf 195 [(0,.ptr 0 0 0),(2,.ptr 1 0 0),(6,.ptr 2 0 0),(8,.int .i64 i)],[dg st r n,.b [.ints .u32 64 kk],.b [.ints .u32 64 w]],true⟩
noncomputable def wR (st r:List Int) (n:Int) (kk w s:List Int) (i:Int):St:=⟨slotsOf 195 [(0,.ptr 0 0 0),(2,.ptr 1 0 0),(6,.ptr 2 0 0),(13,.ptr 3 0 0),(104,.int .i64 i)],[dg st r n,.b [.ints .u32 64 kk],.b [.ints .u32 64 w],.b [.ints .u32 8 (lst 8 s)]],true⟩
section
variable (st r p kk w s:List Int) (n i:Int)
theorem w_head:(execL Tryz.prog wC0 200 2 4 (atoms wB) ⟨slots0 Tryz.f210.ntmps [.ptr 0 0 0,.ro false .u8 (lst 64 p),.ptr 1 0 0],[dg st r n,.b [.ints .u32 64 kk]],true⟩).bind (St.cut [0,2,6,8] 3)=some (wS st r n kk (w16 p) 16):=by kernel_rfl
def nxI (w:List Int) (i:Int):Int:=nxW (w.getD (0+(IntKind.i64.wrap (i-2)).toNat) 0) (w.getD (0+(IntKind.i64.wrap (i-15)).toNat) 0) (w.getD (0+(IntKind.i64.wrap (i-7)).toNat) 0) (w.getD (0+(IntKind.i64.wrap (i-16)).toNat) 0)
def nxO (i:Int) (n:Nat):Bool:=andT (andT (andT (andT (andT (andT (andT (andT (andT (andT (andT true (decide (i<64))) (inB (IntKind.i64.wrap (i-15)) 64)) (decide (0+(IntKind.i64.wrap (i-15)).toNat<64))) (inB (IntKind.i64.wrap (i-2)) 64)) (decide (0+(IntKind.i64.wrap (i-2)).toNat<64)))
 (inB (IntKind.i64.wrap (i-7)) 64)) (decide (0+(IntKind.i64.wrap (i-7)).toNat<64))) (inB (IntKind.i64.wrap (i-16)) 64)) (decide (0+(IntKind.i64.wrap (i-16)).toNat<64))) (inB i 64)) (decide (0+i.toNat<64)&&decide (n=64))
theorem w_next:(exec Tryz.prog (wC true true) 200 2 (inner (inner (nthC 4 wB))) (wS st r n kk w i)).bind (fun r=>(r.2.cut [0,2,6,8] 3).map fun q=>(r.1,q))=some (.normal,{wS st r n kk (w.set (0+i.toNat) (nxI w i)) (IntKind.i64.wrap (i+1)) with ob:=nxO i w.length}):=by kernel_rfl
theorem w_nextE:(exec Tryz.prog (wC false true) 200 2 (inner (inner (nthC 4 wB))) (wS st r n kk w i)).bind (fun r=>(r.2.cut [0,2,6,8] 3).map fun q=>(r.1,q))=some (.exit 2,{wS st r n kk w i with ob:=andT true (!decide (i<64))}):=by kernel_rfl
theorem w_mid:(execL Tryz.prog wC0 200 2 2 ((atoms wB).drop 5) (wS (lst 8 st) r n kk w i)).bind (St.cut [0,2,6,13,104] 4)=some (wR (lst 8 st) r n kk w st 0):=by kernel_rfl
def rnO (i:Int):Bool:=andT (andT (andT (andT (andT true (decide (i<64))) (inB i 64)) (decide (0+i.toNat<64))) (inB i 64)) (decide (0+i.toNat<64))
theorem w_rnd:(exec Tryz.prog (wC true true) 200 2 (inner (inner (nthC 7 wB))) (wR st r n kk w s i)).bind (fun r=>(r.2.cut [0,2,6,13,104] 4).map fun q=>(r.1,q))=some (.normal,{wR st r n kk w (rndW (lst 8 s) (kk.getD (0+i.toNat) 0) (w.getD (0+i.toNat) 0)) (IntKind.i64.wrap (i+1)) with ob:=rnO i}):=by kernel_rfl
theorem w_rndE:(exec Tryz.prog (wC true false) 200 2 (inner (inner (nthC 7 wB))) (wR st r n kk w s i)).bind (fun r=>(r.2.cut [0,2,6,13,104] 4).map fun q=>(r.1,q))=some (.exit 4,{wR st r n kk w s i with ob:=andT true (!decide (i<64))}):=by kernel_rfl
end
theorem sched_len (w:List Int):∀j,(sched w j).length=w.length
 |0=>rfl
 |j+1=>by rw [sched,List.length_set];exact sched_len w j
theorem w16_len (p:List Int):(w16 p).length=64:=by simp [w16]
theorem nxI_eq {w:List Int} {j:Nat} (hj:j<48):nxI w (16+j)=nxW (w.getD (14+j) 0) (w.getD (1+j) 0) (w.getD (9+j) 0) (w.getD j 0):=by
 unfold nxI
 rw [wrap_i64 _ (by omega) (by omega),wrap_i64 _ (by omega) (by omega),wrap_i64 _ (by omega) (by omega),wrap_i64 _ (by omega) (by omega)]
 rw [show 0+((16:Int)+j-2).toNat=14+j by omega,show 0+((16:Int)+j-15).toNat=1+j by omega,show 0+((16:Int)+j-7).toNat=9+j by omega,show 0+((16:Int)+j-16).toNat=j by omega]
theorem nxO_true {j:Nat} (hj:j<48):nxO (16+j) 64=true:=by
 unfold nxO
 rw [wrap_i64 _ (by omega) (by omega),wrap_i64 _ (by omega) (by omega),wrap_i64 _ (by omega) (by omega),wrap_i64 _ (by omega) (by omega)]
 simp only [andT_iff,Bool.and_eq_true,decide_eq_true_eq,true_and]
 refine ⟨⟨⟨⟨⟨⟨⟨⟨⟨⟨?_,inB_true (by omega) (by omega)⟩,?_⟩,inB_true (by omega) (by omega)⟩,?_⟩,inB_true (by omega) (by omega)⟩,?_⟩,inB_true (by omega) (by omega)⟩,?_⟩,inB_true (by omega) (by omega)⟩,?_⟩<;>first|omega|exact ⟨by omega,trivial⟩
theorem rnO_true {j:Nat} (hj:j<64):rnO (j:Int)=true:=by
 unfold rnO
 simp only [andT_iff,decide_eq_true_eq,true_and]
 refine ⟨⟨⟨⟨?_,inB_true (by omega) (by omega)⟩,?_⟩,inB_true (by omega) (by omega)⟩,?_⟩<;>omega
theorem lst_rnd (s:List Int) (k w:Int):lst 8 (rndW s k w)=rndW s k w:=rfl
theorem rnds_lst (s k w:List Int):∀j,lst 8 (rnds (lst 8 s) k w j)=rnds (lst 8 s) k w j
 |0=>lst_eq (lst_length _ _)
 |_+1=>lst_rnd _ _ _
theorem w_loop (st r p kk:List Int) (n:Int):Tr Tryz.prog none 2 (nthC 4 wB) (wS (lst 8 st) r n kk (w16 p) 16) .normal (wS (lst 8 st) r n kk (sched (w16 p) 48) 64):=by
 have key:=Tr.loop (P:=Tryz.prog) (ro:=none) (k:=2) 2 (c:=nthC 4 wB) (by kernel_rfl) (fun j:Nat=>wS (lst 8 st) r n kk (sched (w16 p) j) (16+j)) 48 (s':=wS (lst 8 st) r n kk (sched (w16 p) 48) 64) (fun j hj=>?_) ?_
 ·exact key
 ·have k:=w_next (lst 8 st) r kk (sched (w16 p) j) n (16+j)
  rw [sched_len,w16_len,nxO_true hj,nxI_eq hj,wrap_i64 _ (by omega) (by omega)] at k
  refine Tr.post (Tr.cut (wC_ok true true) 200 _ 3 (by omega) k rfl) (Ent.same ?_ ?_)
  ·show (wS _ _ _ _ _ _).t=(wS _ _ _ _ _ _).t
   rw [show ((16:Int)+(j:Int)+1)=16+((j+1:Nat):Int) by omega];rfl
  ·show (wS _ _ _ _ _ _).h=(wS _ _ _ _ _ _).h
   rw [show 0+((16:Int)+(j:Int)).toNat=16+j by omega];rfl
 ·have k:=w_nextE (lst 8 st) r kk (sched (w16 p) 48) n 64
  exact Tr.post (Tr.cut (wC_ok false true) 200 _ 3 (by omega) k rfl) (Ent.same rfl rfl)
theorem w_loop2 (st r kk w:List Int) (n:Int):Tr Tryz.prog none 2 (nthC 7 wB) (wR (lst 8 st) r n kk w st 0) .normal (wR (lst 8 st) r n kk w (rnds (lst 8 st) kk w 64) 64):=by
 have key:=Tr.loop (P:=Tryz.prog) (ro:=none) (k:=2) 4 (c:=nthC 7 wB) (by kernel_rfl) (fun j:Nat=>wR (lst 8 st) r n kk w (rnds (lst 8 st) kk w j) j) 64 (s':=wR (lst 8 st) r n kk w (rnds (lst 8 st) kk w 64) 64) (fun j hj=>?_) ?_
 ·refine Tr.pre key (Ent.same rfl ?_)
  show (wR _ _ _ _ _ _ _).h=(wR _ _ _ _ _ _ _).h
  unfold wR
  simp only [rnds]
  rw [lst_eq (lst_length 8 st)]
 ·have k:=w_rnd (lst 8 st) r kk w (rnds (lst 8 st) kk w j) n j
  rw [rnO_true hj,wrap_i64 _ (by omega) (by omega),rnds_lst] at k
  refine Tr.post (Tr.cut (wC_ok true true) 200 _ 4 (by omega) k rfl) (Ent.same ?_ ?_)
  ·show (wR _ _ _ _ _ _ _).t=(wR _ _ _ _ _ _ _).t
   rw [show ((j:Int)+1)=((j+1:Nat):Int) by omega];rfl
  ·show (wR _ _ _ _ _ _ _).h=(wR _ _ _ _ _ _ _).h
   rw [show 0+(j:Int).toNat=j by omega];rfl
 ·have k:=w_rndE (lst 8 st) r kk w (rnds (lst 8 st) kk w 64) n 64
  exact Tr.post (Tr.cut (wC_ok true false) 200 _ 4 (by omega) k rfl) (Ent.same rfl rfl)
theorem piece_fn {st p kk:List Int} (r:List Int) (n:Int) (hs:st.length=8) (hp:p.length=64):FnTr Tryz.prog 210 [.ptr 0 0 0,.ro false .u8 p,.ptr 1 0 0] [dg st r n,.b [.ints .u32 64 kk]] (.tup []) [dg (pieceW st p kk) r n,.b [.ints .u32 64 kk]]:=by
 have key:FnTr Tryz.prog 210 [.ptr 0 0 0,.ro false .u8 (lst 64 p),.ptr 1 0 0] [dg (lst 8 st) r n,.b [.ints .u32 64 kk]] (.tup []) [dg (pieceW (lst 8 st) p kk) r n,.b [.ints .u32 64 kk]]:=by
  rw [pieceW,Lock_eq]
  refine FnTr.restM wC0_ok 200 8 2 Tryz.func210 (by simp) rfl (fun s' x h=>?_) (s:=wR (lst 8 st) r n kk (sched (w16 p) 48) (rnds (lst 8 st) kk (sched (w16 p) 48) 64) 64) (p:=true) (by rw [←rnds_lst];kernel_rfl) rfl rfl rfl
  refine TrL.items wC0_ok 200 4 _ 3 (by simp) (w_head (lst 8 st) r p kk n) rfl (by decide) ?_
  refine TrL.item 4 (by decide) (w_loop st r p kk n) ?_
  refine TrL.items wC0_ok 200 2 _ 4 (by simp) (w_mid st r kk _ n 64) rfl (by decide) ?_
  exact TrL.item 7 (by decide) (w_loop2 st r kk _ n) h
 rw [lst_eq hp,lst_eq hs] at key
 exact key
def pickP (vs:List SV) (_:List Blk):List Nat:=match vs with
 | [.ptr a _ _,_,.ptr b _ _]=>[a,b]
 |_=>[]
noncomputable def pieceF:List SV→List Blk→Option (SV×List Blk×Bool)
 | [.ptr 0 0 0,.ro false .u8 p,.ptr 1 0 0],[.b [.ints .u32 8 st,.ro true .u8 r,.int .i64 n],.b [.ints .u32 64 kk]]=>some (.tup [],[dg (pieceW st p kk) r n,.b [.ints .u32 64 kk]],decide (st.length=8)&&decide (p.length=64))
 |_,_=>none
noncomputable def pieceE:Entry Tryz.prog:=.mut 210 _ Tryz.func210 (by decide) rfl pickP 0 pieceF fun vs h0 v h1 e=>by
 unfold pieceF at e
 split at e
 ·simp only [Option.some.injEq,Prod.mk.injEq,Bool.and_eq_true,decide_eq_true_eq] at e
  obtain ⟨rfl,rfl,hs,hp⟩:=e
  exact piece_fn _ _ hs hp
 ·cases e
end Go.Proofs.YthlnlcijnoadcaaGreatDoor.S2
end
section
namespace Go.Proofs.YthlnlcijnoadcaaGreatDoor.S2
open Go Go.Sy Sh
noncomputable def stN (p kk st:List Int):Nat→List Int
 |0=>st
 |j+1=>pieceW (stN p kk st j) ((p.drop (64*j)).take 64) kk
theorem pieceW_len (s p k:List Int):(pieceW s p k).length=8:=by rw [pieceW,Lock_eq];simp [sumW]
theorem stN_len {p kk st:List Int} (h:st.length=8):∀j,(stN p kk st j).length=8
 |0=>h
 |_+1=>pieceW_len _ _ _
noncomputable def b32:List Int:=(List.range 8).map fun i=>V (shrI .u64 (bL.getD i 0) 32)
theorem b32_len:b32.length=8:=by simp [b32]
noncomputable def nwC:Ctr:=mk (P:=Tryz.prog) [beginE] []
theorem nwC_ok:CtrSound Tryz.prog nwC:=mk_sound _ InlOK.nil _ _
theorem new_fn:FnTr Tryz.prog 166 [] [] (.ptr 0 0 0) [dg b32 [] 0]:=by
 have k:FnTr Tryz.prog 166 [] [] (.ptr 0 0 0) [.b [.ints .u32 8 b32,.nl (.slice none 0 0),.int .i64 0]]:=
  callM nwC_ok 200 Tryz.func166 1 (by simp) (p:=true) (by kernel_rfl) rfl rfl rfl
 refine FnTr.conv k trivial trivial (VE.refl _) ⟨⟨rfl,?_⟩,trivial⟩
 rintro e xs ⟨zs,⟨y,us,hy,h2,rfl⟩,rfl⟩
 have hy':y= .slice none 0 0:=hy
 subst hy'
 exact ⟨_,⟨.slice none 0 0,us,.inl ⟨rfl,none,0,rfl,fun _=>rfl⟩,h2,rfl⟩,rfl⟩
noncomputable def newF:List SV→Option (SV×List Blk×Bool)
 | []=>some (.ptr 0 0 0,[dg b32 [] 0],true)
 |_=>none
noncomputable def newE:Entry Tryz.prog:=.val 166 _ Tryz.func166 (by decide) rfl false 1 newF fun vs v new e=>by
 unfold newF at e
 split at e
 ·cases e;exact new_fn
 ·cases e
noncomputable def adC (b:Bool):Ctr:=mk (P:=Tryz.prog) [concatE,shortsE,pieceE,cloneE] [] fun i=>if i=27 then some b else none
theorem adC_ok (b:Bool):CtrSound Tryz.prog (adC b):=mk_sound _ InlOK.nil _ _
noncomputable def aB:Code:=bodyOf Tryz.f167
noncomputable def aS (st r b:List Int) (n:Int) (kk all:List Int):St:=⟨slotsOf 39 [(0,.ptr 0 0 0),(4,.ro true .u8 all),(5,.ptr 2 0 0)],[dg st r n,.b [.ro true .u8 r,.ro false .u8 b],.b [.ints .u32 64 kk]],true⟩
section
variable (st r b kk all:List Int) (n:Int)
theorem ad_head:(execL Tryz.prog (adC true) 60 1 5 (atoms aB) ⟨slots0 Tryz.f167.ntmps [.ptr 0 0 0,.ro false .u8 b],[dg st r n],true⟩).bind (St.cut [0,4,5] 3)=
  some {aS st r b (IntKind.i64.wrap (n+b.length)) k32 [r,b].flatten with ob:=andT true (andT true (decide ([r,b].flatten.length≤274877906944)&&true))}:=by kernel_rfl
theorem ad_one:(exec Tryz.prog (adC true) 60 1 (inner (inner (nthC 5 aB))) (aS st r b n kk all)).bind (fun r=>(r.2.cut [0,4,5] 3).map fun q=>(r.1,q))=
  some (.normal,{aS (pieceW st (all.take 64) kk) r b n kk (all.drop 64) with ob:=andT (andT (andT (andT true (decide ((all.length:Int)≥64))) (andT true (true&&decide ((64:Int)≤all.length)))) (andT true (decide (st.length=8)&&decide ((all.take 64).length=64)))) (andT true (andT true (true&&decide ((64:Int)≤all.length))))}):=by kernel_rfl
theorem ad_end:(exec Tryz.prog (adC false) 60 1 (inner (inner (nthC 5 aB))) (aS st r b n kk all)).bind (fun r=>(r.2.cut [0,4,5] 3).map fun q=>(r.1,q))=
  some (.exit 0,{aS st r b n kk all with ob:=andT true (!decide ((all.length:Int)≥64))}):=by kernel_rfl
end
theorem ad_loop {st r b kk all:List Int} (n:Int) (hs:st.length=8):Tr Tryz.prog none 1 (nthC 5 aB) (aS st r b n kk all) .normal (aS (stN all kk st (all.length/64)) r b n kk (all.drop (64*(all.length/64)))):=by
 have key:=Tr.loop (P:=Tryz.prog) (ro:=none) (k:=1) 0 (c:=nthC 5 aB) (by kernel_rfl) (fun j:Nat=>aS (stN all kk st j) r b n kk (all.drop (64*j))) (all.length/64) (s':=aS (stN all kk st (all.length/64)) r b n kk (all.drop (64*(all.length/64)))) (fun j hj=>?_) ?_
 ·exact key
 ·have k:=ad_one (stN all kk st j) r b kk (all.drop (64*j)) n
  have hl:64≤(all.drop (64*j)).length:=by rw [List.length_drop];omega
  rw [List.drop_drop,decide_eq_true (show ((all.drop (64*j)).length:Int)≥64 by omega),decide_eq_true (stN_len hs j),decide_eq_true (show ((all.drop (64*j)).take 64).length=64 by rw [List.length_take];omega)] at k
  refine Tr.post (Tr.cut (adC_ok true) 60 _ 3 (by omega) k rfl) (Ent.same ?_ rfl)
  show (aS [] r b 0 kk _).t=(aS [] r b 0 kk _).t
  rw [show 64*j+64=64*(j+1) by omega]
 ·have k:=ad_end (stN all kk st (all.length/64)) r b kk (all.drop (64*(all.length/64))) n
  have hl:¬((all.drop (64*(all.length/64))).length:Int)≥64:=by rw [List.length_drop];omega
  exact Tr.post (Tr.cut (adC_ok false) 60 _ 3 (by omega) k (by rw [decide_eq_false hl];rfl)) (Ent.same rfl rfl)
theorem add_fn {st r b:List Int} (n:Int) (hs:st.length=8) (hb:r.length+b.length<274877900000):FnTr Tryz.prog 167 [.ptr 0 0 0,.ro false .u8 b] [dg st r n] (.tup [])
  [dg (stN (r++b) k32 st ((r++b).length/64)) ((r++b).drop (64*((r++b).length/64))) (IntKind.i64.wrap (n+b.length))]:=by
 have hl:(r++b).length=r.length+b.length:=List.length_append
 have hh:=ad_head st r b n
 have e:[r,b].flatten=r++b:=by simp
 rw [e,decide_eq_true (show (r++b).length≤274877906944 by omega)] at hh
 generalize r++b=all at*
 have hd:(all.drop (64*(all.length/64))).length≤274877906944:=by rw [List.length_drop];omega
 have k2:FnTr Tryz.prog 167 [.ptr 0 0 0,.ro false .u8 b] [dg st r n] (.tup [])
   [.b [.ints .u32 8 (stN all k32 st (all.length/64)),.sl 3 0 0 1 (all.drop (64*(all.length/64))).length (all.drop (64*(all.length/64))).length false true,.int .i64 (IntKind.i64.wrap (n+b.length))],.b [.ro true .u8 r,.ro false .u8 b],.b [.ints .u32 64 k32],.b [.ints .u8 (all.drop (64*(all.length/64))).length (all.drop (64*(all.length/64)))]]:=by
  refine FnTr.restM (adC_ok true) 60 6 4 Tryz.func167 (by simp) rfl (fun s' x h=>?_) (s:=aS (stN all k32 st (all.length/64)) r b (IntKind.i64.wrap (n+b.length)) k32 (all.drop (64*(all.length/64))))
   (p:=andT (andT true (andT true (decide ((all.drop (64*(all.length/64))).length≤274877906944)))) true) (by kernel_rfl) (by rw [decide_eq_true hd];rfl) rfl rfl
  refine TrL.items (adC_ok true) 60 5 _ 3 (by simp) hh rfl (by decide) ?_
  exact TrL.item 5 (by decide) (Tr.pre (ad_loop _ hs) (Ent.same rfl rfl)) h
 generalize all.drop (64*(all.length/64))=al at*
 have k3:=FnTr.fz 3 1 (by simp) (by simp) k2 (u:=.tup []) (h2:=[dg (stN all k32 st (all.length/64)) al (IntKind.i64.wrap (n+b.length))]) (p:=andT (decide (al.length=al.length)) (andT true (andT true (true&&(true&&decide (al.length=al.length)))))) (by kernel_rfl) (by rw [decide_eq_true rfl];rfl)
 exact k3
def pickD (vs:List SV) (_:List Blk):List Nat:=match vs with
 | .ptr a _ _::_=>[a]
 |_=>[]
noncomputable def addF:List SV→List Blk→Option (SV×List Blk×Bool)
 | [.ptr 0 0 0,.ro false .u8 b],[.b [.ints .u32 8 st,.ro true .u8 r,.int .i64 n]]=>some (.tup [],[dg (stN (r++b) k32 st ((r++b).length/64)) ((r++b).drop (64*((r++b).length/64))) (IntKind.i64.wrap (n+b.length))],decide (st.length=8)&&decide (r.length+b.length<274877900000))
 |_,_=>none
noncomputable def addE:Entry Tryz.prog:=.mut 167 _ Tryz.func167 (by decide) rfl pickD 0 addF fun vs h0 v h1 e=>by
 unfold addF at e
 split at e
 ·simp only [Option.some.injEq,Prod.mk.injEq,Bool.and_eq_true,decide_eq_true_eq] at e
  obtain ⟨rfl,rfl,hs,hb⟩:=e
  exact add_fn _ hs hb
 ·cases e
noncomputable def suC (x:Bool):Ctr:=mk (P:=Tryz.prog) [paddedE,chunkE,shortsE,pieceE] [] fun i=>if i=9 then some x else none
theorem suC_ok (x:Bool):CtrSound Tryz.prog (suC x):=mk_sound _ InlOK.nil _ _
noncomputable def suC0:Ctr:=mk (P:=Tryz.prog) [paddedE,chunkE,shortsE,pieceE] []
theorem suC0_ok:CtrSound Tryz.prog suC0:=mk_sound _ InlOK.nil _ _
noncomputable def uB:Code:=bodyOf Tryz.f168
noncomputable def uC:Code:=nthC 6 uB
noncomputable def z32:List Int:=List.replicate 32 0
noncomputable def uT:List (Option SV):=slotsOf 52 [(2,.ptr 1 0 0),(3,.ptr 2 0 0),(4,.ptr 3 0 0),(25,.fn (.func 250) [] [.ptr 4 0 0,.ptr 5 0 0])]
noncomputable def uK (st0 r:List Int) (n:Int) (p kk st:List Int):List Blk:=[dg st0 r n,.b [.ints .u8 32 z32],dg st r n,.b [.ints .u32 64 kk],.b [.ro false .u8 p],.b [.int .i64 64]]
noncomputable def uH (st0 r:List Int) (n:Int) (p kk st:List Int) (l:Nat):List Blk:=[dg st0 r n,.b [.ints .u8 32 z32],dg st r n,.b [.ints .u32 64 kk],.b [.ro false .u8 p],.b [.int .i64 64],.g (some (rfL uC uT l))]
noncomputable def uS (st0 r:List Int) (n:Int) (p kk st:List Int) (l:Nat) (i:Int):St:=⟨slotsOf 31 [(0,.fn (.yield l) [] []),(1,.ptr 4 0 0),(2,.ptr 5 0 0),(4,.int .i64 i)],uH st0 r n p kk st l,true⟩
def ckE (p:List Int) (i:Int):Int:=IntKind.i64.wrap (i+if ((p.drop i.toNat).length:Int)<64 then ((p.drop i.toNat).length:Int) else 64)
def ckW (p:List Int) (i:Int):List Int:=(p.drop i.toNat).take ((ckE p i).toNat-i.toNat)
def ckO (p st:List Int) (i:Int) (l:Nat):Bool:=
 andT (andT (andT (andT true (decide (i<p.length))) (andT true (andT true (decide (0≤i)&&decide (i≤p.length)))))
  (andT (decide (0≤ckE p i)&&decide (ckE p i≤p.length)) (andT (decide (0≤ckE p i)&&decide (ckE p i≤(ckE p i).toNat)) (decide (0≤i)&&decide (i≤(ckE p i).toNat)))))
  (andT (andT (andT (decide (l=l)) (decide (l=l))) (andT true (decide (st.length=8)&&decide ((ckW p i).length=64)))) (decide (l=l)))
section
variable (st0 r p kk st:List Int) (n:Int) (l:Nat) (i:Int)
theorem ck_one:(exec Tryz.prog (suC true) 60 7 (inner (inner (nthC 1 ckB))) (uS st0 r n p kk st l i)).bind (fun r=>(r.2.cut [0,1,2,4] 7).map fun q=>(r.1,q))=
  some (.normal,{uS st0 r n p kk (pieceW st (ckW p i) kk) l (IntKind.i64.wrap (i+64)) with ob:=ckO p st i l}):=by kernel_rfl
theorem ck_end:(exec Tryz.prog (suC false) 60 7 (inner (inner (nthC 1 ckB))) (uS st0 r n p kk st l i)).bind (fun r=>(r.2.cut [0,1,2,4] 7).map fun q=>(r.1,q))=
  some (.exit 0,{uS st0 r n p kk st l i with ob:=andT true (!decide (i<p.length))}):=by kernel_rfl
theorem ck_first:(execL Tryz.prog (suC true) 60 7 1 (atoms ckB) ⟨slots0 Tryz.f250.ntmps [.fn (.yield l) [] [],.ptr 4 0 0,.ptr 5 0 0],uH st0 r n p kk st l,true⟩).bind (St.cut [0,1,2,4] 7)=some (uS st0 r n p kk st l 0):=by kernel_rfl
end
theorem ck_eq {p st:List Int} (hs:st.length=8) {N j:Nat} (hp:p.length=64*N) (hj:j<N) (hb:N<10000000000) (l:Nat):ckW p (64*j:Nat)=(p.drop (64*j)).take 64∧ckO p st (64*j:Nat) l=true:=by
 have hd:(p.drop (64*j)).length=64*N-64*j:=by rw [List.length_drop,hp]
 have he:ckE p (64*j:Nat)=((64*j+64:Nat):Int):=by
  unfold ckE
  rw [Int.toNat_natCast,hd,if_neg (by omega),wrap_i64 _ (by omega) (by omega)];omega
 have hw:ckW p (64*j:Nat)=(p.drop (64*j)).take 64:=by
  unfold ckW
  rw [he,Int.toNat_natCast,Int.toNat_natCast,Nat.add_sub_cancel_left]
 refine ⟨hw,?_⟩
 have hl:((p.drop (64*j)).take 64).length=64:=by rw [List.length_take,hd];omega
 unfold ckO
 rw [hw,he,hl,hs]
 simp only [andT_iff,Bool.and_eq_true,decide_eq_true_eq,true_and,and_true,Int.toNat_natCast,hp]
 repeat' apply And.intro
 all_goals omega
theorem ck_iter (st0 r:List Int) (n:Int) {p:List Int} {N:Nat} (hp:p.length=64*N) (hb:N<10000000000) (kk:List Int) {st:List Int} (hs:st.length=8) (l:Nat):
  FnTr Tryz.prog 250 [.fn (.yield l) [] [],.ptr 4 0 0,.ptr 5 0 0] (uH st0 r n p kk st l) (.tup []) (uH st0 r n p kk (stN p kk st N) l):=by
 have hloop:Tr Tryz.prog none 7 (nthC 1 ckB) (uS st0 r n p kk st l 0) .normal (uS st0 r n p kk (stN p kk st N) l (64*N:Nat)):=by
  have key:=Tr.loop (P:=Tryz.prog) (ro:=none) (k:=7) 0 (c:=nthC 1 ckB) (by kernel_rfl) (fun j:Nat=>uS st0 r n p kk (stN p kk st j) l (64*j:Nat)) N (s':=uS st0 r n p kk (stN p kk st N) l (64*N:Nat)) (fun j hj=>?_) ?_
  ·exact key
  ·obtain ⟨h1,h2⟩:=ck_eq (stN_len (p:=p) (kk:=kk) hs j) hp hj hb l
   have k:=ck_one st0 r p kk (stN p kk st j) n l (64*j:Nat)
   rw [h1,h2,wrap_i64 _ (by omega) (by omega)] at k
   refine Tr.post (Tr.cut (suC_ok true) 60 _ 7 (by omega) k rfl) (Ent.same ?_ rfl)
   show (uS st0 r n p kk st l _).t=(uS st0 r n p kk st l _).t
   rw [show ((64*j:Nat):Int)+64=((64*(j+1):Nat):Int) by omega]
  ·have k:=ck_end st0 r p kk (stN p kk st N) n l (64*N:Nat)
   exact Tr.post (Tr.cut (suC_ok false) 60 _ 7 (by omega) k (by rw [hp];simp [andT])) (Ent.same rfl rfl)
 refine FnTr.mk (vs:=[]) Tryz.func250 rfl (x:=.normal) (s:=uS st0 r n p kk (stN p kk st N) l (64*N:Nat)) ?_ (.inr rfl) (by kernel_rfl)
 refine TrL.items (suC_ok true) 60 1 _ 7 (by simp [uH]) (ck_first st0 r p kk st n l) rfl (by decide) ?_
 exact TrL.item 1 (by decide) hloop ⟨rfl,rfl⟩
def outB (s:List Int):List Int:=(List.range 32).map fun i=>IntKind.u8.wrap (shrI .u32 (s.getD (i/4) 0) (24-8*(i%4)))
def padE (r:List Int) (n:Int):List Int:=padL r 64 56++len8 n
theorem padE_len (r:List Int) (n:Int):(padE r n).length=64*((padE r n).length/64)∧(padE r n).length≤r.length+73:=by
 have h:=(padK_mod (len:=r.length) (show 56<64 by omega)).1
 have hK:padK r.length 64 56<64:=Nat.mod_lt _ (by omega)
 have hl:(padE r n).length=r.length+1+padK r.length 64 56+8:=by unfold padE;rw [List.length_append,padL_len];rfl
 rw [hl];omega
noncomputable def sumE1 (st r:List Int) (n:Int):List Int:=outB (stN (padE r n) k32 st ((padE r n).length/64))
theorem su_head (st r:List Int) (n:Int):(execL Tryz.prog (suC true) 60 1 6 (atoms uB) ⟨slots0 Tryz.f168.ntmps [.ptr 0 0 0],[dg st r n],true⟩).bind (St.cut [2,3,4,25] 6)=
  some ⟨uT,uK st r n (padE r n) k32 st,andT true (andT true (decide (r.length<274877900000)))⟩:=by kernel_rfl
theorem sum_fn {st r:List Int} (n:Int) (hs:st.length=8) (hr:r.length<274877900000):FnTr Tryz.prog 168 [.ptr 0 0 0] [dg st r n] (.agg [.ints .u8 32 (sumE1 st r n)]) [dg st r n]:=by
 obtain ⟨hp,hq⟩:=padE_len r n
 unfold sumE1
 generalize hN:(padE r n).length/64=N at hp
 refine FnTr.restM suC0_ok 60 7 1 Tryz.func168 (by simp) rfl (fun s' x h=>?_) (s:=⟨uT,uK st r n (padE r n) k32 (stN (padE r n) k32 st N)++[.gap],true⟩) (p:=true) (by kernel_rfl) rfl rfl rfl
 refine TrL.items (suC_ok true) 60 6 _ 6 (by simp) (su_head st r n) (by rw [decide_eq_true hr];rfl) (by decide) ?_
 refine TrL.item 6 (by decide) ?_ h
 exact Tr.rangeB 0 (by kernel_rfl) (f:=250) (first:=[]) (capt:=[.ptr 4 0 0,.ptr 5 0 0]) true Tryz.func250 (by decide) rfl (by kernel_rfl) (fun l=>ck_iter st r n hp (by omega) k32 hs l)
  (fun l=>⟨_,rfl,rfl,by simp [rfL],rfl⟩) (fun l=>rfl)
def pickS (vs:List SV):List Nat:=match vs with
 | [.ptr a _ _]=>[a]
 |_=>[]
noncomputable def sumF:List SV→List Blk→Option (SV×Bool)
 | [.ptr 0 0 0],[.b [.ints .u32 8 st,.ro true .u8 r,.int .i64 n]]=>some (.agg [.ints .u8 32 (sumE1 st r n)],decide (st.length=8)&&decide (r.length<274877900000))
 |_,_=>none
noncomputable def sumE:Entry Tryz.prog:=.rdm 168 _ Tryz.func168 (by decide) rfl pickS sumF fun vs h0 v e=>by
 unfold sumF at e
 split at e
 ·simp only [Option.some.injEq,Prod.mk.injEq,Bool.and_eq_true,decide_eq_true_eq] at e
  obtain ⟨rfl,hs,hb⟩:=e
  exact sum_fn _ hs hb
 ·cases e
end Go.Proofs.YthlnlcijnoadcaaGreatDoor.S2
end
