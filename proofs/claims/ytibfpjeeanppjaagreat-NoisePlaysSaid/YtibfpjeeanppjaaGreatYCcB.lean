/- This file proves the contracts of chacha's Pieces and Mix: a text and a stream. Conditions: nonces of 12 bytes; numbers that don't run out. -/
import Derived.Test.YtibfpjeeanppjaaGreatYCcA
import Derived.Test.YtibfpjeeanppjaaGreatYSxB
set_option linter.all false
set_option maxRecDepth 100000
namespace Go.Proofs.YtibfpjeeanppjaaGreat.Cc
open Go Go.Sy Sh
noncomputable def Kv:bu:=mk (P:=Tryz.prog) [] []
theorem Xb:ag Tryz.prog Kv:=ah _ au.nil _ _
def psF:List SV→Option (SV×List Blk×Bool)
 | [.agg [.ints .u8 32 key],.ro false .u8 af,.int .i64 n]=>some (.fn (.func 146) [] [.ptr 2 0 0,.ptr 0 0 0,.ptr 1 0 0],[.b [.ints .u8 32 key],.b [.ro false .u8 af],.b [.int .i64 n]],true)
 |_=>none
noncomputable def psE:Entry Tryz.prog:=.val 113 _ Tryz.func113 (by decide) rfl true 3 psF fun vs v new e=>by
 unfold psF at e
 split at e
 ·cases e
  exact aQ Xb 30 Tryz.func113 3 (by simp) (p:=true) (by kernel_rfl) rfl rfl rfl
 ·cases e
noncomputable def Dv (key af:List Int) (n:Int) (text:List Int) (i:Nat):Int:=cm .u8 (text.getD i 0) ((fq key af (n+(i/64:Nat))).getD (i%64) 0)
noncomputable def kq (key af:List Int) (n:Int) (text:List Int) (m:Nat):List Int:=(List.range m).map (Dv key af n text)++List.replicate (text.length-m) 0
noncomputable def cE (key af:List Int) (n:Int) (text:List Int):List Int:=(List.range text.length).map (Dv key af n text)
theorem QJ (key af:List Int) (n:Int) (text:List Int):kq key af n text text.length=cE key af n text:=by unfold kq cE;simp
theorem QK (key af:List Int) (n:Int) (text:List Int) {m:Nat} (h:m≤text.length):(kq key af n text m).length=text.length:=by unfold kq;simp;omega
theorem Kw (key af:List Int) (n:Int) (text:List Int) (m:Nat):ng (kq key af n text m) m [Dv key af n text m] 1=kq key af n text (m+1):=by
 have hr:((List.range m).map (Dv key af n text)).length=m:=by simp
 have hd:(kq key af n text m).drop (m+1)=List.replicate (text.length-(m+1)) 0:=by
  unfold kq
  rw [←List.drop_drop,List.drop_left' hr,List.drop_replicate]
  congr 1
 unfold ng
 rw [hd]
 unfold kq
 rw [List.take_left' hr,List.range_succ,List.map_append]
 rfl
noncomputable def PV:Code:=aE Tryz.f71
noncomputable def mxI:Code:=inner (aA 1 PV)
noncomputable def Kx:Code:=aA 8 mxI
noncomputable def mxV:Code:=inner (rfB (inner Kx))
noncomputable def QL:Code:=aA 1 mxV
noncomputable def itB:Code:=aE Tryz.f146
noncomputable def mxC (a b:Bool):bu:=mk (P:=Tryz.prog) [] [] (fun i=>if i=43 then some a else if i=49 then some b else none)
theorem pR (a b:Bool):ag Tryz.prog (mxC a b):=ah _ au.nil _ _
noncomputable def US:List (Option SV):=slotsOf 62 [(4,.ptr 0 0 0),(7,.ptr 1 0 0),(11,.ptr 3 0 0),(38,.fn (.func 146) [] [.ptr 6 0 0,.ptr 4 0 0,.ptr 5 0 0])]
noncomputable def xL (l:Nat):Lp:=FB Kx US l
noncomputable def Io (l:Nat):Lp:={FB Kx US l with st:=.busy}
noncomputable def PW (l:Nat):Lp:={FB Kx US l with st:=.done,fB:=some (.exit 0)}
noncomputable def acy (key af text l:List Int) (m:Nat) (n:Int):List Blk:=[.b [.ints .u8 32 key],.b [.ro false .u8 text],.b [.ints .u8 text.length l],.b [.sl 2 0 0 1 m text.length false false],.b [.ints .u8 32 key],.b [.ro false .u8 af],.b [.int .i64 n]]
noncomputable def vE (key af text l:List Int) (m:Nat) (n:Int) (g:Option Lp):List Blk:=[.b [.ints .u8 32 key],.b [.ro false .u8 text],.b [.ints .u8 text.length l],.b [.sl 2 0 0 1 m text.length false false],.b [.ints .u8 32 key],.b [.ro false .u8 af],.b [.int .i64 n],.g g]
noncomputable def Dx (key af text l p:List Int) (m:Nat) (n:Int) (g:Option Lp):List Blk:=[.b [.ints .u8 32 key],.b [.ro false .u8 text],.b [.ints .u8 text.length l],.b [.sl 2 0 0 1 m text.length false false],.b [.ints .u8 32 key],.b [.ro false .u8 af],.b [.int .i64 n],.g g,.b [.ints .u8 64 p]]
noncomputable def acz (key af text l p q:List Int) (m:Nat) (n:Int) (g:Option Lp):List Blk:=[.b [.ints .u8 32 key],.b [.ro false .u8 text],.b [.ints .u8 text.length l],.b [.sl 2 0 0 1 m text.length false false],.b [.ints .u8 32 key],.b [.ro false .u8 af],.b [.int .i64 n],.g g,.b [.ints .u8 64 p],.b [.ints .u8 64 q]]
noncomputable def mxA (key af text l p q:List Int) (m:Nat) (n:Int) (g:Option Lp):St:=⟨slotsOf 62 [(7,.ptr 1 0 0),(11,.ptr 3 0 0),(13,.ptr 9 0 0)],acz key af text l p q m n g,true⟩
noncomputable def Ip (key af text l p q:List Int) (m:Nat) (n i:Int) (k:Nat):St:=⟨slotsOf 62 [(7,.ptr 1 0 0),(11,.ptr 3 0 0),(41,.agg [.ints .u8 64 q]),(42,.int .i64 i)],acz key af text l p q m n (some (Io k)),true⟩
def PX (i:Int) (m L n:Nat):Bool:=aa (aa (aa (aa (aa (aa true (decide (i<64))) (decide (i.toNat<64)&&cL i 64)) (!(m:Int)==(L:Int))) (cL (m:Int) L)) (decide ((m:Int).toNat<L))) (aa (aa true (decide (m+1≤L))) (decide (n=L)&&decide (0+m+1≤L)&&true))
section
variable (key af text l p q:List Int) (m k:Nat) (n i v:Int)
theorem Ky:(exec Tryz.prog (mxC true true) 60 9 (xL k).qE ⟨vF (xL k).t (xL k).ps.toList [.int .i64 v,.agg [.ints .u8 64 q]],Dx key af text l p m n (some (xL k)),true⟩).bind (fun r=>(r.2.cut [7,11,13] 10).map fun q=>(r.1,q))=
  some (.normal,mxA key af text l p q m n (some (xL k))):=by kernel_rfl
theorem UT:(exec Tryz.prog (mxC true true) 60 9 (aA 0 mxV) (mxA key af text l p q m n (some (Io k)))).bind (fun r=>(r.2.cut [7,11,41,42] 10).map fun q=>(r.1,q))=
  some (.normal,Ip key af text l p q m n 0 k):=by kernel_rfl
theorem Xc:(exec Tryz.prog (mxC true false) 60 9 (inner (inner QL)) (Ip key af text l p q m n i k)).bind (fun r=>(r.2.cut [7,11,41,42] 10).map fun q=>(r.1,q))=
  some (.normal,{Ip key af text (ng l (0+m) [cm .u8 (text.getD (m:Int).toNat 0) (q.getD i.toNat 0)] 1) p q (m+1) n (IntKind.i64.wrap (i+1)) k with ob:=PX i m text.length l.length}):=by kernel_rfl
theorem Xd:(exec Tryz.prog (mxC true true) 60 9 (inner (inner QL)) (Ip key af text l p q m n i k)).bind (fun r=>(r.2.cut [] 9).map fun q=>(r.1,q))=
  some (.exit 0,{t:=slotsOf 62 [],h:=Dx key af text l p m n (some (Io k)),ob:=aa (aa (aa true (decide (i<64))) (decide (i.toNat<64)&&cL i 64)) ((m:Int)==(text.length:Int))}):=by kernel_rfl
theorem Xe:(exec Tryz.prog (mxC false true) 60 9 (inner (inner QL)) (Ip key af text l p q m n i k)).bind (fun r=>(r.2.cut [] 9).map fun q=>(r.1,q))=
  some (.exit 2,{t:=slotsOf 62 [],h:=Dx key af text l p m n (some (Io k)),ob:=aa true (!decide (i<64))}):=by kernel_rfl
end
theorem QM {P:Program} {ro:Option Nat} {k:Nat} (id j:Nat) (hj:j≠id) {c:Code} {s s':St} (hc:lO id c=true) (h:iR P ro k (inner (inner c)) s (.exit j) s'):Tr P ro k c s (.exit j) s':=by
 cases c<;>simp [lO] at hc
 rename_i i b
 cases b<;>simp at hc
 subst hc
 exact Tr.sx (iR.loop h) hj
section
variable {key af text p:List Int} {n v:Int} {j k:Nat}
theorem FN (i:Nat) (hi:i<64) (h:64*j+i<text.length) (k:Nat):
  Tr Tryz.prog (some k) 9 (inner (inner QL)) (Ip key af text (kq key af n text (64*j+i)) p (fq key af (n+j)) (64*j+i) n i k) .normal (Ip key af text (kq key af n text (64*j+(i+1))) p (fq key af (n+j)) (64*j+(i+1)) n ((i+1:Nat):Int) k):=by
 have e:=Xc key af text (kq key af n text (64*j+i)) p (fq key af (n+j)) (64*j+i) k n i
 have ef:cm .u8 (text.getD (((64*j+i:Nat):Int)).toNat 0) ((fq key af (n+j)).getD (i:Int).toNat 0)=Dv key af n text (64*j+i):=by
  unfold Dv
  rw [Int.toNat_natCast,Int.toNat_natCast,show (64*j+i)/64=j by omega,show (64*j+i)%64=i by omega]
 have ho:PX i (64*j+i) text.length text.length=true:=by
  unfold PX
  have h1:(!(((64*j+i:Nat):Int)==(text.length:Int)))=true:=by simp;omega
  rw [h1,aK (by omega) (by omega),aK (by omega) (by omega)]
  simp only [av,Bool.and_eq_true,decide_eq_true_eq,true_and,and_true,Int.toNat_natCast]
  omega
 rw [ef,Nat.zero_add,Kw,QK _ _ _ _ (by omega),ho,wrap_i64 _ (by omega) (by omega)] at e
 refine Tr.post (Tr.cut (pR true false) 60 _ 10 (by omega) e rfl) (bq.same ?_ ?_)
 ·show (Ip key af text [] p (fq key af (n+j)) 0 n _ k).t=(Ip key af text [] p (fq key af (n+j)) 0 n _ k).t
  rw [show ((i:Int)+1)=((i+1:Nat):Int) by omega]
 ·rfl
theorem Kz:rfB (inner Kx)= .block 1 mxV:=by kernel_rfl
theorem FO:lO 2 QL=true:=by kernel_rfl
theorem QN (h:64*j+64≤text.length) (k:Nat):QO Tryz.prog k [.int .i64 v,.agg [.ints .u8 64 (fq key af (n+j))]] (Dx key af text (kq key af n text (64*j)) p (64*j) n (some (xL k))) (.bool true)
  (Dx key af text (kq key af n text (64*j+64)) p (64*j+64) n (some (xL k))):=by
 have b1:Tr Tryz.prog (some k) 9 QL (Ip key af text (kq key af n text (64*j)) p (fq key af (n+j)) (64*j) n 0 k) .normal ⟨slotsOf 62 [],Dx key af text (kq key af n text (64*j+64)) p (64*j+64) n (some (Io k)),true⟩:=by
  have j9:=Tr.loop (P:=Tryz.prog) (ro:=some k) (k:=9) 2 (c:=QL) FO (fun i:Nat=>Ip key af text (kq key af n text (64*j+i)) p (fq key af (n+j)) (64*j+i) n i k) 64 (fun i hi=>FN i hi (by omega) k)
   (Tr.cut (pR false true) 60 _ 9 (Nat.le_refl _) (Xe key af text (kq key af n text (64*j+64)) p (fq key af (n+j)) (64*j+64) k n 64) rfl)
  exact Tr.post j9 (bq.same rfl rfl)
 have b2:Tr Tryz.prog (some k) 9 mxV (mxA key af text (kq key af n text (64*j)) p (fq key af (n+j)) (64*j) n (some (Io k))) .normal ⟨slotsOf 62 [],Dx key af text (kq key af n text (64*j+64)) p (64*j+64) n (some (Io k)),true⟩:=by
  refine Tr.ew ?_
  exact bf.item 0 (by decide) (Tr.cut (pR true true) 60 _ 10 (by omega) (UT ..) rfl) (bf.item 1 (by decide) b1 ⟨rfl,rfl⟩)
 have b3:=Tr.fN (id:=1) b2 (by simp)
 rw [←Kz] at b3
 have b0:=Tr.cut (ro:=some k) (k:=9) (pR true true) 60 _ 10 (by omega) (Ky key af text (kq key af n text (64*j)) p (fq key af (n+j)) (64*j) k n v) rfl
 exact QO.mk (i:=7) (L:=xL k) (L1:=xL k) (L2:=Io k) (vs:=[.int .i64 v,.agg [.ints .u8 64 (fq key af (n+j))]]) (h:=Dx key af text (kq key af n text (64*j)) p (64*j) n (some (xL k)))
  (q:=none) (x:=.normal) (by kernel_rfl) rfl (by kernel_rfl) b0 rfl rfl rfl b3 rfl rfl rfl rfl
theorem QS (h0:64*j≤text.length) (h:text.length<64*j+64) (k:Nat):QO Tryz.prog k [.int .i64 v,.agg [.ints .u8 64 (fq key af (n+j))]] (Dx key af text (kq key af n text (64*j)) p (64*j) n (some (xL k))) (.bool false)
  (Dx key af text (cE key af n text) p text.length n (some (PW k))):=by
 obtain ⟨K,hK⟩:∃K,text.length=64*j+K:=⟨text.length-64*j,by omega⟩
 have b1:Tr Tryz.prog (some k) 9 QL (Ip key af text (kq key af n text (64*j)) p (fq key af (n+j)) (64*j) n 0 k) (.exit 0) ⟨slotsOf 62 [],Dx key af text (cE key af n text) p text.length n (some (Io k)),true⟩:=by
  have ho:aa (aa (aa true (decide ((K:Int)<64))) (decide ((K:Int).toNat<64)&&cL (K:Int) 64)) (((64*j+K:Nat):Int)==(text.length:Int))=true:=by
   rw [aK (by omega) (by omega),decide_eq_true (show (K:Int)<64 by omega),decide_eq_true (show (K:Int).toNat<64 by omega),hK,beq_self_eq_true]
   rfl
  have j9:=iR.for (P:=Tryz.prog) (ro:=some k) (k:=9) (b:=inner (inner QL)) (x:=.exit 0) (by simp) (fun i:Nat=>Ip key af text (kq key af n text (64*j+i)) p (fq key af (n+j)) (64*j+i) n i k) K (fun i hi=>FN i (by omega) (by omega) k)
   (Tr.cut (pR true true) 60 _ 9 (Nat.le_refl _) (Xd key af text (kq key af n text (64*j+K)) p (fq key af (n+j)) (64*j+K) k n K) ho)
  have:=QM 2 0 (by decide) FO j9
  refine Tr.post this (bq.same rfl ?_)
  show Dx key af text (kq key af n text (64*j+K)) p (64*j+K) n (some (Io k))=_
  rw [←hK,QJ]
 have b2:Tr Tryz.prog (some k) 9 mxV (mxA key af text (kq key af n text (64*j)) p (fq key af (n+j)) (64*j) n (some (Io k))) (.exit 0) ⟨slotsOf 62 [],Dx key af text (cE key af n text) p text.length n (some (Io k)),true⟩:=by
  refine Tr.ew ?_
  exact bf.item 0 (by decide) (Tr.cut (pR true true) 60 _ 10 (by omega) (UT ..) rfl) (bf.leave 1 (by decide) (by simp) b1)
 have b3:=Tr.sx (id:=1) b2 (by decide)
 rw [←Kz] at b3
 have b0:=Tr.cut (ro:=some k) (k:=9) (pR true true) 60 _ 10 (by omega) (Ky key af text (kq key af n text (64*j)) p (fq key af (n+j)) (64*j) k n v) rfl
 exact QO.mk (i:=7) (L:=xL k) (L1:=xL k) (L2:=Io k) (vs:=[.int .i64 v,.agg [.ints .u8 64 (fq key af (n+j))]]) (h:=Dx key af text (kq key af n text (64*j)) p (64*j) n (some (xL k)))
  (q:=some (.exit 0)) (x:=.exit 0) (by kernel_rfl) rfl (by kernel_rfl) b0 rfl rfl rfl b3 rfl rfl rfl rfl
end
noncomputable def mxX (full:Bool) (_:Int) (q key af text:List Int) (L:Nat) (l0:List Int) (m L2:Nat) (zg:List Int) (n:Int) (R:Lp) (k:Nat):Bool:=
 @decide (∃j:Nat,q=fq key af (n+j)∧m=64*j∧L=text.length∧L2=text.length∧zg=key∧l0=kq key af n text m∧R=xL k∧m≤text.length∧(full=true→m+64≤text.length)∧(full=false→text.length<m+64)) (Classical.propDecidable _)
noncomputable def mxY (full:Bool):Nat→List SV→List Blk→Option (SV×List Blk×Bool)
 |k,[.int .i64 v,.agg [.ints .u8 64 q]],[.b [.ints .u8 32 key],.b [.ro false .u8 text],.b [.ints .u8 L l0],.b [.sl 2 0 0 1 m L2 false false],.b [.ints .u8 32 zg],.b [.ro false .u8 af],.b [.int .i64 n],.g (some R),.b [.ints .u8 64 p]]=>
  match full with
  |true=>some (.bool true,Dx key af text (kq key af n text (m+64)) p (m+64) n (some (xL k)),mxX true v q key af text L l0 m L2 zg n R k)
  |false=>some (.bool false,Dx key af text (cE key af n text) p text.length n (some (PW k)),mxX false v q key af text L l0 m L2 zg n R k)
 |_,_,_=>none
theorem Xf (full:Bool):∀k vs h v h',mxY full k vs h=some (v,h',true)→QO Tryz.prog k vs h v h':=by
 intro k vs h v h' e
 unfold mxY at e
 split at e
 ·split at e
  ·simp only [Option.some.injEq,Prod.mk.injEq] at e
   obtain ⟨rfl,rfl,hx⟩:=e
   have hx:=@of_decide_eq_true _ (Classical.propDecidable _) hx
   obtain ⟨j,rfl,rfl,rfl,rfl,rfl,rfl,rfl,h1,h2,h3⟩:=hx
   exact QN (h2 rfl) k
  ·simp only [Option.some.injEq,Prod.mk.injEq] at e
   obtain ⟨rfl,rfl,hx⟩:=e
   have hx:=@of_decide_eq_true _ (Classical.propDecidable _) hx
   obtain ⟨j,rfl,rfl,rfl,rfl,rfl,rfl,rfl,h1,h2,h3⟩:=hx
   exact QS h1 (h3 rfl) k
 ·cases e
noncomputable def itC (full:Bool):bu:=(mk (P:=Tryz.prog) [pcE] []).UU (mxY full)
theorem DT (full:Bool):ag Tryz.prog (itC full):=bu.KA (ah _ au.nil _ _) (Xf full)
noncomputable def PY (key af text l:List Int) (m:Nat) (n v:Int) (k:Nat):St:=⟨slotsOf 27 [(0,.fn (.yield k) [] []),(1,.ptr 6 0 0),(2,.ptr 4 0 0),(3,.ptr 5 0 0),(5,.int .i64 v)],vE key af text l m n (some (xL k)),true⟩
theorem Bq {full:Bool} {key af text:List Int} {n v:Int} {j k:Nat} (hv:v=n+j) (h1:64*j≤text.length) (h2:full=true→64*j+64≤text.length) (h3:full=false→text.length<64*j+64):
  mxX full v (fq key af v) key af text text.length (kq key af n text (64*j)) (64*j) text.length key n (xL k) k=true:=
 @decide_eq_true _ (Classical.propDecidable _) ⟨j,by rw [hv],rfl,rfl,rfl,rfl,rfl,rfl,h1,h2,h3⟩
section
variable (key af text l:List Int) (m k:Nat) (n v:Int)
def itO (af:List Int) (v:Int):Bool:=decide (af.length=12)&&decide (0≤v)&&decide (v≤4294967295)
theorem QT:(aW Tryz.prog (itC true) 60 8 1 (atoms itB) ⟨aO Tryz.f146.ntmps [.fn (.yield k) [] [],.ptr 6 0 0,.ptr 4 0 0,.ptr 5 0 0],vE key af text l m n (some (xL k)),true⟩).bind (St.cut [0,1,2,3,5] 8)=some (PY key af text l m n n k):=by kernel_rfl
theorem Xg:(exec Tryz.prog (itC true) 60 8 (inner (inner (aA 1 itB))) (PY key af text l m n v k)).bind (fun r=>(r.2.cut [0,1,2,3,5] 8).map fun q=>(r.1,q))=
  some (.normal,{PY key af text (kq key af n text (m+64)) (m+64) n (IntKind.i64.wrap (v+1)) k with ob:=aa (aa true (aa true (itO af v))) (mxX true v (fq key af v) key af text text.length l m text.length key n (xL k) k)}):=by kernel_rfl
theorem QU:(exec Tryz.prog (itC false) 60 8 (inner (inner (aA 1 itB))) (PY key af text l m n v k)).bind (fun r=>(r.2.cut [] 8).map fun q=>(r.1,q))=
  some (.ret,⟨slotsOf 27 [],vE key af text (cE key af n text) text.length n (some (PW k)),aa (aa true (aa true (itO af v))) (mxX false v (fq key af v) key af text text.length l m text.length key n (xL k) k)⟩):=by kernel_rfl
end
theorem acB {key af text:List Int} {n:Int} (hn:af.length=12) (h0:0≤n) (h1:n+(text.length/64:Nat)≤4294967295) (k:Nat):
  ai Tryz.prog 146 [.fn (.yield k) [] [],.ptr 6 0 0,.ptr 4 0 0,.ptr 5 0 0] (vE key af text (kq key af n text 0) 0 n (some (xL k))) (.aT []) (vE key af text (cE key af n text) text.length n (some (PW k))):=by
 have hO:∀j:Nat,j≤text.length/64→itO af (n+j)=true:=fun j hj=>by
  unfold itO
  rw [hn,decide_eq_true (show 0≤n+(j:Int) by omega),decide_eq_true (show n+(j:Int)≤4294967295 by omega)]
  rfl
 have bY:Tr Tryz.prog none 8 (aA 1 itB) (PY key af text (kq key af n text 0) 0 n n k) .ret ⟨slotsOf 27 [],vE key af text (cE key af n text) text.length n (some (PW k)),true⟩:=by
  refine Tr.qD 0 (by kernel_rfl) ?_
  have j9:=iR.for (P:=Tryz.prog) (ro:=none) (k:=8) (b:=inner (inner (aA 1 itB))) (x:=.ret) (s':=⟨slotsOf 27 [],vE key af text (cE key af n text) text.length n (some (PW k)),true⟩) (by simp)
   (fun j:Nat=>PY key af text (kq key af n text (64*j)) (64*j) n (n+j) k) (text.length/64) (fun j hj=>?_) ?_
  ·refine iR.pre j9 (bq.same ?_ rfl)
   show (PY key af text [] 0 n _ k).t=(PY key af text [] 0 n _ k).t
   rw [show n+((0:Nat):Int)=n by omega]
  ·have e:=Xg key af text (kq key af n text (64*j)) (64*j) k n (n+j)
   rw [hO j (by omega),Bq rfl (by omega) (fun _=>by omega) (fun h=>by cases h),wrap_i64 _ (by omega) (by omega)] at e
   refine Tr.post (Tr.cut (DT true) 60 _ 8 (by omega) e rfl) (bq.same ?_ rfl)
   show (PY key af text [] 0 n _ k).t=(PY key af text [] 0 n _ k).t
   rw [show n+(j:Int)+1=n+((j+1:Nat):Int) by omega]
  ·have e:=QU key af text (kq key af n text (64*(text.length/64))) (64*(text.length/64)) k n (n+(text.length/64:Nat))
   rw [hO _ (Nat.le_refl _),Bq rfl (by omega) (fun h=>by cases h) (fun _=>by omega)] at e
   exact Tr.cut (DT false) 60 _ 8 (by omega) e rfl
 refine ai.mk (vs:=[]) Tryz.func146 rfl (x:=.ret) (s:=⟨slotsOf 27 [],vE key af text (cE key af n text) text.length n (some (PW k)),true⟩) ?_ (.inl rfl) (by kernel_rfl)
 refine bf.items (DT true) 60 1 _ 8 (by show 8≤8;omega) (QT key af text _ 0 k n) rfl (by decide) ?_
 exact bf.leave 1 (by decide) (by simp) bY
noncomputable def mhC:bu:=mk (P:=Tryz.prog) [chE,psE] [] (fun i=>if i=30 then some false else none)
theorem zh:ag Tryz.prog mhC:=ah _ au.nil _ _
noncomputable def mx1 (key af text:List Int) (n:Int):St:=⟨slotsOf 62 [(1,.ro false .u8 af),(2,.int .i64 n),(4,.ptr 0 0 0),(7,.ptr 1 0 0)],[.b [.ints .u8 32 key],.b [.ro false .u8 text]],true⟩
noncomputable def mx2 (key af text:List Int) (n:Int):St:=⟨US,[.b [.ints .u8 32 key],.b [.ro false .u8 text],.b [.ints .u8 text.length (List.replicate text.length 0)],.b [.sl 2 0 0 1 0 text.length true false],.b [.ints .u8 32 key],.b [.ro false .u8 af],.b [.int .i64 n]],true⟩
section
variable (key af text l:List Int) (n:Int)
theorem acD:(aW Tryz.prog mhC 60 0 1 (atoms PV) ⟨aO Tryz.f71.ntmps [.agg [.ints .u8 32 key],.ro false .u8 af,.int .i64 n,.ro false .u8 text],[],true⟩).bind (St.cut [1,2,4,7] 2)=some (mx1 key af text n):=by kernel_rfl
def mhO (af text:List Int) (n:Int):Bool:=aa (aa (aa true (aa true (decide (af.length=12)&&decide (0≤n)&&decide (n≤4294967295)))) (!decide (IntKind.i64.wrap ((IntKind.i64.wrap (IntKind.i64.wrap ((text.length:Int)+64)-1)).tdiv 64)>IntKind.i64.wrap (IntKind.i64.wrap (4294967295-n)+1))))
 (true&&IntKind.i64.wrap (text.length:Int)==(text.length:Int)&&(true&&decide ((1:Int)*(text.length:Int)≤281474976710656)))
theorem acE:(aW Tryz.prog mhC 60 0 8 (atoms mxI) (mx1 key af text n)).bind (St.cut [4,7,11,38] 7)=some {mx2 key af text n with ob:=mhO af text n}:=by kernel_rfl
noncomputable def mx3 (key af text l:List Int):St:=⟨slotsOf 62 [(8,.sl 2 0 0 1 text.length text.length false false),(9,.nl .nilIface)],[.b [.ints .u8 32 key],.b [.ro false .u8 text],.b [.ints .u8 text.length l]],true⟩
theorem acG:(aW Tryz.prog mhC 60 0 1 ((atoms mxI).drop 9) ⟨US,vE key af text l text.length n none,true⟩).bind (St.cut [8,9] 3)=some (mx3 key af text l):=by kernel_rfl
theorem acH:o9 Tryz.prog mhC 60 0 (((atoms mxI).drop 9).drop 1) (mx3 key af text l)=some (.ret,mx3 key af text l):=by kernel_rfl
end
theorem Xh:Kx= .block 0 (.rangeFunc (rfG (inner Kx)) (rfP (inner Kx)) (rfA (inner Kx)) (rfB (inner Kx))):=by kernel_rfl
theorem KB:aA 1 PV= .scope mxI:=by kernel_rfl
theorem QV (key af text:List Int) (n:Int):bq 0 (mx2 key af text n) ⟨US,acy key af text (kq key af n text 0) 0 n,true⟩:=by
 have e:List.replicate text.length (0:Int)=kq key af n text 0:=by simp [kq]
 unfold mx2
 rw [e]
 refine bq.acI ⟨PE.refl _,PE.refl _,PE.refl _,⟨rfl,?_⟩,PE.refl _,PE.refl _,PE.refl _,trivial⟩
 rintro e xs ⟨y,zs,hy,hz,rfl⟩
 refine ⟨y,zs,?_,hz,rfl⟩
 rcases hy with h|⟨p,c,a,h1,h2,h3,h4,_,h6,h7⟩
 ·exact .inl h
 ·exact .inr ⟨p,c,a,h1,h2,h3,h4,(by simp),h6,h7⟩
theorem KC {af text:List Int} {n:Int} (hn:af.length=12) (h0:0≤n) (h1:n+(text.length/64:Nat)≤4294967295) (hl:text.length≤281474976710656):mhO af text n=true:=by
 unfold mhO
 have e1:((text.length:Int)+64-1).tdiv 64=(((text.length+63)/64:Nat):Int):=by
  rw [show (text.length:Int)+64-1=((text.length+63:Nat):Int) by omega,Int.tdiv_eq_ediv_of_nonneg (by omega)]
  omega
 rw [wrap_i64 ((text.length:Int)+64) (by omega) (by omega),wrap_i64 ((text.length:Int)+64-1) (by omega) (by omega),e1,wrap_i64 (((text.length+63)/64:Nat):Int) (by omega) (by omega),wrap_i64 (4294967295-n) (by omega) (by omega),wrap_i64 (4294967295-n+1) (by omega) (by omega),wrap_i64 (text.length:Int) (by omega) (by omega)]
 rw [hn,decide_eq_true h0,decide_eq_true (show n≤4294967295 by omega),decide_eq_false (show ¬((((text.length+63)/64:Nat):Int)>4294967295-n+1) by omega),decide_eq_true (show (1:Int)*(text.length:Int)≤281474976710656 by omega),beq_self_eq_true]
 rfl
theorem KD {key af text:List Int} {n:Int} (hn:af.length=12) (h0:0≤n) (h1:n+(text.length/64:Nat)≤4294967295) (hl:text.length≤281474976710656):
  ai Tryz.prog 71 [.agg [.ints .u8 32 key],.ro false .u8 af,.int .i64 n,.ro false .u8 text] [] (.aT [.sl 2 0 0 1 text.length text.length false false,.nl .nilIface]) [.b [.ints .u8 32 key],.b [.ro false .u8 text],.b [.ints .u8 text.length (cE key af n text)]]:=by
 have DU:Tr Tryz.prog none 0 Kx ⟨US,acy key af text (kq key af n text 0) 0 n,true⟩ .normal ⟨US,vE key af text (cE key af n text) text.length n none,true⟩:=by
  rw [Xh]
  refine Tr.block ?_
  exact Tr.range (q:=some (.exit 0)) (first:=[]) (kG:=[.ptr 6 0 0,.ptr 4 0 0,.ptr 5 0 0]) (v:=.aT []) true Tryz.func146 (by decide) rfl (by kernel_rfl) (h1:=fun l=>vE key af text (cE key af n text) text.length n (some (PW l))) (fun l=>acB hn h0 h1 l) (fun l=>⟨PW l,by kernel_rfl,by kernel_rfl,by simp [PW],by kernel_rfl⟩) (fun l=>rfl) rfl
 have hin:Tr Tryz.prog none 0 (aA 1 PV) (mx1 key af text n) .ret (mx3 key af text (cE key af n text)):=by
  rw [KB]
  refine Tr.scope (Tr.ew ?_) (by simp)
  refine bf.items zh 60 8 _ 7 (by simp) (acE key af text n) (KC hn h0 h1 hl) (by decide) ?_
  refine bf.pre ?_ (QV key af text n) (by decide)
  refine bf.item 8 (by decide) DU ?_
  refine bf.items zh 60 1 _ 3 (by simp) (acG key af text _ n) rfl (by decide) ?_
  exact bf.rest zh 60 (acH key af text _) rfl
 have k:ai Tryz.prog 71 [.agg [.ints .u8 32 key],.ro false .u8 af,.int .i64 n,.ro false .u8 text] [] (.aT [.sl 2 0 0 1 text.length text.length false false,.nl .nilIface]) [.b [.ints .u8 32 key],.b [.ro false .u8 text],.b [.ints .u8 text.length (cE key af n text)]]:=by
  refine ai.mk (vs:=[.sl 2 0 0 1 text.length text.length false false,.nl .nilIface]) Tryz.func71 rfl (x:=.ret) (s:=mx3 key af text (cE key af n text)) ?_ (.inl rfl) (by kernel_rfl)
  refine bf.items zh 60 1 _ 2 (by simp) (acD key af text n) rfl (by decide) ?_
  exact bf.leave 1 (by decide) (by simp) hin
 exact k
theorem DV {key af text:List Int} {n:Int} (hn:af.length=12) (h0:0≤n) (h1:n+(text.length/64:Nat)≤4294967295) (hl:text.length≤281474976710656):
  ai Tryz.prog 71 [.agg [.ints .u8 32 key],.ro false .u8 af,.int .i64 n,.ro false .u8 text] [] (.aT [.ro true .u8 (cE key af n text),.nl .nilIface]) []:=by
 have hw:(cE key af n text).length=text.length:=by simp [cE]
 have k:=KD (key:=key) hn h0 h1 hl
 have k3:=ai.fz 2 0 (by simp) (by simp) k (u:=.aT [.ro true .u8 (((cE key af n text).drop 0).take text.length),.nl .nilIface]) (h2:=[]) (p:=aa (decide ((cE key af n text).length=text.length)) (decide (0+text.length≤text.length)&&true)) (by kernel_rfl) (by rw [hw,Nat.zero_add,decide_eq_true rfl,decide_eq_true (Nat.le_refl _)];rfl)
 rw [List.drop_zero,List.take_of_length_le (by omega)] at k3
 exact k3
noncomputable def UW:List SV→Option (SV×List Blk×Bool)
 | [.agg [.ints .u8 32 key],.ro false .u8 af,.int .i64 n,.ro false .u8 text]=>some (.aT [.sl 0 0 0 1 text.length text.length false false,.nl .nilIface],[.b [.ints .u8 text.length (cE key af n text)]],decide (af.length=12)&&decide (0≤n)&&decide (n+(text.length/64:Nat)≤4294967295)&&decide (text.length≤281474976710656))
 |_=>none
noncomputable def alF:Entry Tryz.prog:=.val 71 _ Tryz.func71 (by decide) rfl true 1 UW fun vs v new e=>by
 unfold UW at e
 split at e
 ·simp only [Option.some.injEq,Prod.mk.injEq,Bool.and_eq_true,decide_eq_true_eq] at e
  obtain ⟨rfl,rfl,⟨⟨h1,h2⟩,h3⟩,h4⟩:=e
  exact ai.KE [2] (KD h1 h2 h3 h4) (by kernel_rfl)
 ·cases e
noncomputable def Br:List SV→Option (SV×List Blk×Bool)
 | [.agg [.ints .u8 32 key],.ro false .u8 af,.int .i64 n,.ro false .u8 text]=>some (.aT [.ro true .u8 (cE key af n text),.nl .nilIface],[],decide (af.length=12)&&decide (0≤n)&&decide (n+(text.length/64:Nat)≤4294967295)&&decide (text.length≤281474976710656))
 |_=>none
noncomputable def Bm:Entry Tryz.prog:=.val 71 _ Tryz.func71 (by decide) rfl true 0 Br fun vs v new e=>by
 unfold Br at e
 split at e
 ·simp only [Option.some.injEq,Prod.mk.injEq,Bool.and_eq_true,decide_eq_true_eq] at e
  obtain ⟨rfl,rfl,⟨⟨h1,h2⟩,h3⟩,h4⟩:=e
  exact DV h1 h2 h3 h4
 ·cases e
end Go.Proofs.YtibfpjeeanppjaaGreat.Cc
