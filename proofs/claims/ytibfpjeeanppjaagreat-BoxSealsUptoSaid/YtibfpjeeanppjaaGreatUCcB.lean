/- This file proves the contracts of chacha's Pieces and Mix: a text and a stream. Conditions: nonces of 12 bytes; numbers that don't run out. -/
import Derived.Test.YtibfpjeeanppjaaGreatUCcA
import Derived.Test.YtibfpjeeanppjaaGreatUSxB
set_option linter.all false
set_option maxRecDepth 100000
namespace Go.Proofs.YtibfpjeeanppjaaGreat.Cc
open Go Go.Sy Sh
noncomputable def Jv:bK:=mk (P:=Tryz.prog) [] []
theorem UT:ag Tryz.prog Jv:=ai _ aF.nil _ _
def psF:List SV→Option (SV×List Blk×Bool)
 | [.agg [.ints .u8 32 key],.ro false .u8 af,.int .i64 n]=>some (.fn (.func 146) [] [.ptr 2 0 0,.ptr 0 0 0,.ptr 1 0 0],[.b [.ints .u8 32 key],.b [.ro false .u8 af],.b [.int .i64 n]],true)
 |_=>none
noncomputable def psE:Entry Tryz.prog:=.val 113 _ Tryz.func113 (by decide) rfl true 3 psF fun vs v new e=>by
 unfold psF at e
 split at e
 ·cases e
  exact dF UT 30 Tryz.func113 3 (by simp) (p:=true) (by kernel_rfl) rfl rfl rfl
 ·cases e
noncomputable def vG (key af:List Int) (n:Int) (text:List Int) (i:Nat):Int:=cj .u8 (text.getD i 0) ((eA key af (n+(i/64:Nat))).getD (i%64) 0)
noncomputable def jU (key af:List Int) (n:Int) (text:List Int) (m:Nat):List Int:=(List.range m).map (vG key af n text)++List.replicate (text.length-m) 0
noncomputable def cI (key af:List Int) (n:Int) (text:List Int):List Int:=(List.range text.length).map (vG key af n text)
theorem OE (key af:List Int) (n:Int) (text:List Int):jU key af n text text.length=cI key af n text:=by unfold jU cI;simp
theorem OF (key af:List Int) (n:Int) (text:List Int) {m:Nat} (h:m≤text.length):(jU key af n text m).length=text.length:=by unfold jU;simp;omega
theorem Jw (key af:List Int) (n:Int) (text:List Int) (m:Nat):nN (jU key af n text m) m [vG key af n text m] 1=jU key af n text (m+1):=by
 have hr:((List.range m).map (vG key af n text)).length=m:=by simp
 have hd:(jU key af n text m).drop (m+1)=List.replicate (text.length-(m+1)) 0:=by
  unfold jU
  rw [←List.drop_drop,List.drop_left' hr,List.drop_replicate]
  congr 1
 unfold nN
 rw [hd]
 unfold jU
 rw [List.take_left' hr,List.range_succ,List.map_append]
 rfl
noncomputable def mxB:Code:=aH Tryz.f71
noncomputable def Bj:Code:=inner (ak 1 mxB)
noncomputable def Jx:Code:=ak 8 Bj
noncomputable def ZG:Code:=inner (ZH (inner Jx))
noncomputable def OG:Code:=ak 1 ZG
noncomputable def ZI:Code:=aH Tryz.f146
noncomputable def Yb (a b:Bool):bK:=mk (P:=Tryz.prog) [] [] (fun i=>if i=43 then some a else if i=49 then some b else none)
theorem oD (a b:Bool):ag Tryz.prog (Yb a b):=ai _ aF.nil _ _
noncomputable def Sp:List (Option SV):=slotsOf 62 [(4,.ptr 0 0 0),(7,.ptr 1 0 0),(11,.ptr 3 0 0),(38,.fn (.func 146) [] [.ptr 6 0 0,.ptr 4 0 0,.ptr 5 0 0])]
noncomputable def vI (l:Nat):Lp:=Dl Jx Sp l
noncomputable def FT (l:Nat):Lp:={Dl Jx Sp l with st:=.busy}
noncomputable def Nn (l:Nat):Lp:={Dl Jx Sp l with st:=.done,fc:=some (.exit 0)}
noncomputable def ZJ (key af text l:List Int) (m:Nat) (n:Int):List Blk:=[.b [.ints .u8 32 key],.b [.ro false .u8 text],.b [.ints .u8 text.length l],.b [.sl 2 0 0 1 m text.length false false],.b [.ints .u8 32 key],.b [.ro false .u8 af],.b [.int .i64 n]]
noncomputable def tX (key af text l:List Int) (m:Nat) (n:Int) (g:Option Lp):List Blk:=[.b [.ints .u8 32 key],.b [.ro false .u8 text],.b [.ints .u8 text.length l],.b [.sl 2 0 0 1 m text.length false false],.b [.ints .u8 32 key],.b [.ro false .u8 af],.b [.int .i64 n],.g g]
noncomputable def Bk (key af text l p:List Int) (m:Nat) (n:Int) (g:Option Lp):List Blk:=[.b [.ints .u8 32 key],.b [.ro false .u8 text],.b [.ints .u8 text.length l],.b [.sl 2 0 0 1 m text.length false false],.b [.ints .u8 32 key],.b [.ro false .u8 af],.b [.int .i64 n],.g g,.b [.ints .u8 64 p]]
noncomputable def ZK (key af text l p q:List Int) (m:Nat) (n:Int) (g:Option Lp):List Blk:=[.b [.ints .u8 32 key],.b [.ro false .u8 text],.b [.ints .u8 text.length l],.b [.sl 2 0 0 1 m text.length false false],.b [.ints .u8 32 key],.b [.ro false .u8 af],.b [.int .i64 n],.g g,.b [.ints .u8 64 p],.b [.ints .u8 64 q]]
noncomputable def mxA (key af text l p q:List Int) (m:Nat) (n:Int) (g:Option Lp):St:=⟨slotsOf 62 [(7,.ptr 1 0 0),(11,.ptr 3 0 0),(13,.ptr 9 0 0)],ZK key af text l p q m n g,true⟩
noncomputable def FU (key af text l p q:List Int) (m:Nat) (n i:Int) (k:Nat):St:=⟨slotsOf 62 [(7,.ptr 1 0 0),(11,.ptr 3 0 0),(41,.agg [.ints .u8 64 q]),(42,.int .i64 i)],ZK key af text l p q m n (some (FT k)),true⟩
def mxO (i:Int) (m L n:Nat):Bool:=aa (aa (aa (aa (aa (aa true (decide (i<64))) (decide (i.toNat<64)&&cK i 64)) (!(m:Int)==(L:Int))) (cK (m:Int) L)) (decide ((m:Int).toNat<L))) (aa (aa true (decide (m+1≤L))) (decide (n=L)&&decide (0+m+1≤L)&&true))
section
variable (key af text l p q:List Int) (m k:Nat) (n i v:Int)
theorem Jy:(exec Tryz.prog (Yb true true) 60 9 (vI k).pP ⟨tY (vI k).t (vI k).ps.toList [.int .i64 v,.agg [.ints .u8 64 q]],Bk key af text l p m n (some (vI k)),true⟩).bind (fun r=>(r.2.cut [7,11,13] 10).map fun q=>(r.1,q))=
  some (.normal,mxA key af text l p q m n (some (vI k))):=by kernel_rfl
theorem Sq:(exec Tryz.prog (Yb true true) 60 9 (ak 0 ZG) (mxA key af text l p q m n (some (FT k)))).bind (fun r=>(r.2.cut [7,11,41,42] 10).map fun q=>(r.1,q))=
  some (.normal,FU key af text l p q m n 0 k):=by kernel_rfl
theorem UU:(exec Tryz.prog (Yb true false) 60 9 (inner (inner OG)) (FU key af text l p q m n i k)).bind (fun r=>(r.2.cut [7,11,41,42] 10).map fun q=>(r.1,q))=
  some (.normal,{FU key af text (nN l (0+m) [cj .u8 (text.getD (m:Int).toNat 0) (q.getD i.toNat 0)] 1) p q (m+1) n (IntKind.i64.wrap (i+1)) k with ob:=mxO i m text.length l.length}):=by kernel_rfl
theorem UW:(exec Tryz.prog (Yb true true) 60 9 (inner (inner OG)) (FU key af text l p q m n i k)).bind (fun r=>(r.2.cut [] 9).map fun q=>(r.1,q))=
  some (.exit 0,{t:=slotsOf 62 [],h:=Bk key af text l p m n (some (FT k)),ob:=aa (aa (aa true (decide (i<64))) (decide (i.toNat<64)&&cK i 64)) ((m:Int)==(text.length:Int))}):=by kernel_rfl
theorem UX:(exec Tryz.prog (Yb false true) 60 9 (inner (inner OG)) (FU key af text l p q m n i k)).bind (fun r=>(r.2.cut [] 9).map fun q=>(r.1,q))=
  some (.exit 2,{t:=slotsOf 62 [],h:=Bk key af text l p m n (some (FT k)),ob:=aa true (!decide (i<64))}):=by kernel_rfl
end
theorem OH {P:Program} {ro:Option Nat} {k:Nat} (id j:Nat) (hj:j≠id) {c:Code} {s s':St} (hc:kQ id c=true) (h:dy P ro k (inner (inner c)) s (.exit j) s'):Tr P ro k c s (.exit j) s':=by
 cases c<;>simp [kQ] at hc
 rename_i i b
 cases b<;>simp at hc
 subst hc
 exact Tr.qG (dy.loop h) hj
section
variable {key af text p:List Int} {n v:Int} {j k:Nat}
theorem DD (i:Nat) (hi:i<64) (h:64*j+i<text.length) (k:Nat):
  Tr Tryz.prog (some k) 9 (inner (inner OG)) (FU key af text (jU key af n text (64*j+i)) p (eA key af (n+j)) (64*j+i) n i k) .normal (FU key af text (jU key af n text (64*j+(i+1))) p (eA key af (n+j)) (64*j+(i+1)) n ((i+1:Nat):Int) k):=by
 have e:=UU key af text (jU key af n text (64*j+i)) p (eA key af (n+j)) (64*j+i) k n i
 have ef:cj .u8 (text.getD (((64*j+i:Nat):Int)).toNat 0) ((eA key af (n+j)).getD (i:Int).toNat 0)=vG key af n text (64*j+i):=by
  unfold vG
  rw [Int.toNat_natCast,Int.toNat_natCast,show (64*j+i)/64=j by omega,show (64*j+i)%64=i by omega]
 have ho:mxO i (64*j+i) text.length text.length=true:=by
  unfold mxO
  have h1:(!(((64*j+i:Nat):Int)==(text.length:Int)))=true:=by simp;omega
  rw [h1,aK (by omega) (by omega),aK (by omega) (by omega)]
  simp only [au,Bool.and_eq_true,decide_eq_true_eq,true_and,and_true,Int.toNat_natCast]
  omega
 rw [ef,Nat.zero_add,Jw,OF _ _ _ _ (by omega),ho,wrap_i64 _ (by omega) (by omega)] at e
 refine Tr.post (Tr.cut (oD true false) 60 _ 10 (by omega) e rfl) (aU.same ?_ ?_)
 ·show (FU key af text [] p (eA key af (n+j)) 0 n _ k).t=(FU key af text [] p (eA key af (n+j)) 0 n _ k).t
  rw [show ((i:Int)+1)=((i+1:Nat):Int) by omega]
 ·rfl
theorem Jz:ZH (inner Jx)= .block 1 ZG:=by kernel_rfl
theorem DE:kQ 2 OG=true:=by kernel_rfl
theorem OI (h:64*j+64≤text.length) (k:Nat):OJ Tryz.prog k [.int .i64 v,.agg [.ints .u8 64 (eA key af (n+j))]] (Bk key af text (jU key af n text (64*j)) p (64*j) n (some (vI k))) (.bool true)
  (Bk key af text (jU key af n text (64*j+64)) p (64*j+64) n (some (vI k))):=by
 have b1:Tr Tryz.prog (some k) 9 OG (FU key af text (jU key af n text (64*j)) p (eA key af (n+j)) (64*j) n 0 k) .normal ⟨slotsOf 62 [],Bk key af text (jU key af n text (64*j+64)) p (64*j+64) n (some (FT k)),true⟩:=by
  have jS:=Tr.loop (P:=Tryz.prog) (ro:=some k) (k:=9) 2 (c:=OG) DE (fun i:Nat=>FU key af text (jU key af n text (64*j+i)) p (eA key af (n+j)) (64*j+i) n i k) 64 (fun i hi=>DD i hi (by omega) k)
   (Tr.cut (oD false true) 60 _ 9 (Nat.le_refl _) (UX key af text (jU key af n text (64*j+64)) p (eA key af (n+j)) (64*j+64) k n 64) rfl)
  exact Tr.post jS (aU.same rfl rfl)
 have b2:Tr Tryz.prog (some k) 9 ZG (mxA key af text (jU key af n text (64*j)) p (eA key af (n+j)) (64*j) n (some (FT k))) .normal ⟨slotsOf 62 [],Bk key af text (jU key af n text (64*j+64)) p (64*j+64) n (some (FT k)),true⟩:=by
  refine Tr.aD ?_
  exact aG.item 0 (by decide) (Tr.cut (oD true true) 60 _ 10 (by omega) (Sq ..) rfl) (aG.item 1 (by decide) b1 ⟨rfl,rfl⟩)
 have b3:=Tr.aQ (id:=1) b2 (by simp)
 rw [←Jz] at b3
 have b0:=Tr.cut (ro:=some k) (k:=9) (oD true true) 60 _ 10 (by omega) (Jy key af text (jU key af n text (64*j)) p (eA key af (n+j)) (64*j) k n v) rfl
 exact OJ.mk (i:=7) (L:=vI k) (L1:=vI k) (L2:=FT k) (vs:=[.int .i64 v,.agg [.ints .u8 64 (eA key af (n+j))]]) (h:=Bk key af text (jU key af n text (64*j)) p (64*j) n (some (vI k)))
  (q:=none) (x:=.normal) (by kernel_rfl) rfl (by kernel_rfl) b0 rfl rfl rfl b3 rfl rfl rfl rfl
theorem OK (h0:64*j≤text.length) (h:text.length<64*j+64) (k:Nat):OJ Tryz.prog k [.int .i64 v,.agg [.ints .u8 64 (eA key af (n+j))]] (Bk key af text (jU key af n text (64*j)) p (64*j) n (some (vI k))) (.bool false)
  (Bk key af text (cI key af n text) p text.length n (some (Nn k))):=by
 obtain ⟨K,hK⟩:∃K,text.length=64*j+K:=⟨text.length-64*j,by omega⟩
 have b1:Tr Tryz.prog (some k) 9 OG (FU key af text (jU key af n text (64*j)) p (eA key af (n+j)) (64*j) n 0 k) (.exit 0) ⟨slotsOf 62 [],Bk key af text (cI key af n text) p text.length n (some (FT k)),true⟩:=by
  have ho:aa (aa (aa true (decide ((K:Int)<64))) (decide ((K:Int).toNat<64)&&cK (K:Int) 64)) (((64*j+K:Nat):Int)==(text.length:Int))=true:=by
   rw [aK (by omega) (by omega),decide_eq_true (show (K:Int)<64 by omega),decide_eq_true (show (K:Int).toNat<64 by omega),hK,beq_self_eq_true]
   rfl
  have jS:=dy.for (P:=Tryz.prog) (ro:=some k) (k:=9) (b:=inner (inner OG)) (x:=.exit 0) (by simp) (fun i:Nat=>FU key af text (jU key af n text (64*j+i)) p (eA key af (n+j)) (64*j+i) n i k) K (fun i hi=>DD i (by omega) (by omega) k)
   (Tr.cut (oD true true) 60 _ 9 (Nat.le_refl _) (UW key af text (jU key af n text (64*j+K)) p (eA key af (n+j)) (64*j+K) k n K) ho)
  have:=OH 2 0 (by decide) DE jS
  refine Tr.post this (aU.same rfl ?_)
  show Bk key af text (jU key af n text (64*j+K)) p (64*j+K) n (some (FT k))=_
  rw [←hK,OE]
 have b2:Tr Tryz.prog (some k) 9 ZG (mxA key af text (jU key af n text (64*j)) p (eA key af (n+j)) (64*j) n (some (FT k))) (.exit 0) ⟨slotsOf 62 [],Bk key af text (cI key af n text) p text.length n (some (FT k)),true⟩:=by
  refine Tr.aD ?_
  exact aG.item 0 (by decide) (Tr.cut (oD true true) 60 _ 10 (by omega) (Sq ..) rfl) (aG.leave 1 (by decide) (by simp) b1)
 have b3:=Tr.qG (id:=1) b2 (by decide)
 rw [←Jz] at b3
 have b0:=Tr.cut (ro:=some k) (k:=9) (oD true true) 60 _ 10 (by omega) (Jy key af text (jU key af n text (64*j)) p (eA key af (n+j)) (64*j) k n v) rfl
 exact OJ.mk (i:=7) (L:=vI k) (L1:=vI k) (L2:=FT k) (vs:=[.int .i64 v,.agg [.ints .u8 64 (eA key af (n+j))]]) (h:=Bk key af text (jU key af n text (64*j)) p (64*j) n (some (vI k)))
  (q:=some (.exit 0)) (x:=.exit 0) (by kernel_rfl) rfl (by kernel_rfl) b0 rfl rfl rfl b3 rfl rfl rfl rfl
end
noncomputable def ZL (full:Bool) (_:Int) (q key af text:List Int) (L:Nat) (l0:List Int) (m L2:Nat) (xz:List Int) (n:Int) (R:Lp) (k:Nat):Bool:=
 @decide (∃j:Nat,q=eA key af (n+j)∧m=64*j∧L=text.length∧L2=text.length∧xz=key∧l0=jU key af n text m∧R=vI k∧m≤text.length∧(full=true→m+64≤text.length)∧(full=false→text.length<m+64)) (Classical.propDecidable _)
noncomputable def mxY (full:Bool):Nat→List SV→List Blk→Option (SV×List Blk×Bool)
 |k,[.int .i64 v,.agg [.ints .u8 64 q]],[.b [.ints .u8 32 key],.b [.ro false .u8 text],.b [.ints .u8 L l0],.b [.sl 2 0 0 1 m L2 false false],.b [.ints .u8 32 xz],.b [.ro false .u8 af],.b [.int .i64 n],.g (some R),.b [.ints .u8 64 p]]=>
  match full with
  |true=>some (.bool true,Bk key af text (jU key af n text (m+64)) p (m+64) n (some (vI k)),ZL true v q key af text L l0 m L2 xz n R k)
  |false=>some (.bool false,Bk key af text (cI key af n text) p text.length n (some (Nn k)),ZL false v q key af text L l0 m L2 xz n R k)
 |_,_,_=>none
theorem UY (full:Bool):∀k vs h v h',mxY full k vs h=some (v,h',true)→OJ Tryz.prog k vs h v h':=by
 intro k vs h v h' e
 unfold mxY at e
 split at e
 ·split at e
  ·simp only [Option.some.injEq,Prod.mk.injEq] at e
   obtain ⟨rfl,rfl,hx⟩:=e
   have hx:=@of_decide_eq_true _ (Classical.propDecidable _) hx
   obtain ⟨j,rfl,rfl,rfl,rfl,rfl,rfl,rfl,h1,h2,h3⟩:=hx
   exact OI (h2 rfl) k
  ·simp only [Option.some.injEq,Prod.mk.injEq] at e
   obtain ⟨rfl,rfl,hx⟩:=e
   have hx:=@of_decide_eq_true _ (Classical.propDecidable _) hx
   obtain ⟨j,rfl,rfl,rfl,rfl,rfl,rfl,rfl,h1,h2,h3⟩:=hx
   exact OK h1 (h3 rfl) k
 ·cases e
noncomputable def itC (full:Bool):bK:=(mk (P:=Tryz.prog) [pcE] []).Sr (mxY full)
theorem BQ (full:Bool):ag Tryz.prog (itC full):=bK.JA (ai _ aF.nil _ _) (UY full)
noncomputable def Np (key af text l:List Int) (m:Nat) (n v:Int) (k:Nat):St:=⟨slotsOf 27 [(0,.fn (.yield k) [] []),(1,.ptr 6 0 0),(2,.ptr 4 0 0),(3,.ptr 5 0 0),(5,.int .i64 v)],tX key af text l m n (some (vI k)),true⟩
theorem zM {full:Bool} {key af text:List Int} {n v:Int} {j k:Nat} (hv:v=n+j) (h1:64*j≤text.length) (h2:full=true→64*j+64≤text.length) (h3:full=false→text.length<64*j+64):
  ZL full v (eA key af v) key af text text.length (jU key af n text (64*j)) (64*j) text.length key n (vI k) k=true:=
 @decide_eq_true _ (Classical.propDecidable _) ⟨j,by rw [hv],rfl,rfl,rfl,rfl,rfl,rfl,h1,h2,h3⟩
section
variable (key af text l:List Int) (m k:Nat) (n v:Int)
def itO (af:List Int) (v:Int):Bool:=decide (af.length=12)&&decide (0≤v)&&decide (v≤4294967295)
theorem OM:(az Tryz.prog (itC true) 60 8 1 (atoms ZI) ⟨aT Tryz.f146.ntmps [.fn (.yield k) [] [],.ptr 6 0 0,.ptr 4 0 0,.ptr 5 0 0],tX key af text l m n (some (vI k)),true⟩).bind (St.cut [0,1,2,3,5] 8)=some (Np key af text l m n n k):=by kernel_rfl
theorem UZ:(exec Tryz.prog (itC true) 60 8 (inner (inner (ak 1 ZI))) (Np key af text l m n v k)).bind (fun r=>(r.2.cut [0,1,2,3,5] 8).map fun q=>(r.1,q))=
  some (.normal,{Np key af text (jU key af n text (m+64)) (m+64) n (IntKind.i64.wrap (v+1)) k with ob:=aa (aa true (aa true (itO af v))) (ZL true v (eA key af v) key af text text.length l m text.length key n (vI k) k)}):=by kernel_rfl
theorem ON:(exec Tryz.prog (itC false) 60 8 (inner (inner (ak 1 ZI))) (Np key af text l m n v k)).bind (fun r=>(r.2.cut [] 8).map fun q=>(r.1,q))=
  some (.ret,⟨slotsOf 27 [],tX key af text (cI key af n text) text.length n (some (Nn k)),aa (aa true (aa true (itO af v))) (ZL false v (eA key af v) key af text text.length l m text.length key n (vI k) k)⟩):=by kernel_rfl
end
theorem ZM {key af text:List Int} {n:Int} (hn:af.length=12) (h0:0≤n) (h1:n+(text.length/64:Nat)≤4294967295) (k:Nat):
  aj Tryz.prog 146 [.fn (.yield k) [] [],.ptr 6 0 0,.ptr 4 0 0,.ptr 5 0 0] (tX key af text (jU key af n text 0) 0 n (some (vI k))) (.bk []) (tX key af text (cI key af n text) text.length n (some (Nn k))):=by
 have hO:∀j:Nat,j≤text.length/64→itO af (n+j)=true:=fun j hj=>by
  unfold itO
  rw [hn,decide_eq_true (show 0≤n+(j:Int) by omega),decide_eq_true (show n+(j:Int)≤4294967295 by omega)]
  rfl
 have bS:Tr Tryz.prog none 8 (ak 1 ZI) (Np key af text (jU key af n text 0) 0 n n k) .ret ⟨slotsOf 27 [],tX key af text (cI key af n text) text.length n (some (Nn k)),true⟩:=by
  refine Tr.sU 0 (by kernel_rfl) ?_
  have jS:=dy.for (P:=Tryz.prog) (ro:=none) (k:=8) (b:=inner (inner (ak 1 ZI))) (x:=.ret) (s':=⟨slotsOf 27 [],tX key af text (cI key af n text) text.length n (some (Nn k)),true⟩) (by simp)
   (fun j:Nat=>Np key af text (jU key af n text (64*j)) (64*j) n (n+j) k) (text.length/64) (fun j hj=>?_) ?_
  ·refine dy.pre jS (aU.same ?_ rfl)
   show (Np key af text [] 0 n _ k).t=(Np key af text [] 0 n _ k).t
   rw [show n+((0:Nat):Int)=n by omega]
  ·have e:=UZ key af text (jU key af n text (64*j)) (64*j) k n (n+j)
   rw [hO j (by omega),zM rfl (by omega) (fun _=>by omega) (fun h=>by cases h),wrap_i64 _ (by omega) (by omega)] at e
   refine Tr.post (Tr.cut (BQ true) 60 _ 8 (by omega) e rfl) (aU.same ?_ rfl)
   show (Np key af text [] 0 n _ k).t=(Np key af text [] 0 n _ k).t
   rw [show n+(j:Int)+1=n+((j+1:Nat):Int) by omega]
  ·have e:=ON key af text (jU key af n text (64*(text.length/64))) (64*(text.length/64)) k n (n+(text.length/64:Nat))
   rw [hO _ (Nat.le_refl _),zM rfl (by omega) (fun h=>by cases h) (fun _=>by omega)] at e
   exact Tr.cut (BQ false) 60 _ 8 (by omega) e rfl
 refine aj.mk (vs:=[]) Tryz.func146 rfl (x:=.ret) (s:=⟨slotsOf 27 [],tX key af text (cI key af n text) text.length n (some (Nn k)),true⟩) ?_ (.inl rfl) (by kernel_rfl)
 refine aG.items (BQ true) 60 1 _ 8 (by show 8≤8;omega) (OM key af text _ 0 k n) rfl (by decide) ?_
 exact aG.leave 1 (by decide) (by simp) bS
noncomputable def ZN:bK:=mk (P:=Tryz.prog) [chE,psE] [] (fun i=>if i=30 then some false else none)
theorem xA:ag Tryz.prog ZN:=ai _ aF.nil _ _
noncomputable def mx1 (key af text:List Int) (n:Int):St:=⟨slotsOf 62 [(1,.ro false .u8 af),(2,.int .i64 n),(4,.ptr 0 0 0),(7,.ptr 1 0 0)],[.b [.ints .u8 32 key],.b [.ro false .u8 text]],true⟩
noncomputable def mx2 (key af text:List Int) (n:Int):St:=⟨Sp,[.b [.ints .u8 32 key],.b [.ro false .u8 text],.b [.ints .u8 text.length (List.replicate text.length 0)],.b [.sl 2 0 0 1 0 text.length true false],.b [.ints .u8 32 key],.b [.ro false .u8 af],.b [.int .i64 n]],true⟩
section
variable (key af text l:List Int) (n:Int)
theorem ZO:(az Tryz.prog ZN 60 0 1 (atoms mxB) ⟨aT Tryz.f71.ntmps [.agg [.ints .u8 32 key],.ro false .u8 af,.int .i64 n,.ro false .u8 text],[],true⟩).bind (St.cut [1,2,4,7] 2)=some (mx1 key af text n):=by kernel_rfl
def mhO (af text:List Int) (n:Int):Bool:=aa (aa (aa true (aa true (decide (af.length=12)&&decide (0≤n)&&decide (n≤4294967295)))) (!decide (IntKind.i64.wrap ((IntKind.i64.wrap (IntKind.i64.wrap ((text.length:Int)+64)-1)).tdiv 64)>IntKind.i64.wrap (IntKind.i64.wrap (4294967295-n)+1))))
 (true&&IntKind.i64.wrap (text.length:Int)==(text.length:Int)&&(true&&decide ((1:Int)*(text.length:Int)≤281474976710656)))
theorem ZP:(az Tryz.prog ZN 60 0 8 (atoms Bj) (mx1 key af text n)).bind (St.cut [4,7,11,38] 7)=some {mx2 key af text n with ob:=mhO af text n}:=by kernel_rfl
noncomputable def ZQ (key af text l:List Int):St:=⟨slotsOf 62 [(8,.sl 2 0 0 1 text.length text.length false false),(9,.nl .nilIface)],[.b [.ints .u8 32 key],.b [.ro false .u8 text],.b [.ints .u8 text.length l]],true⟩
theorem ZR:(az Tryz.prog ZN 60 0 1 ((atoms Bj).drop 9) ⟨Sp,tX key af text l text.length n none,true⟩).bind (St.cut [8,9] 3)=some (ZQ key af text l):=by kernel_rfl
theorem ZS:nY Tryz.prog ZN 60 0 (((atoms Bj).drop 9).drop 1) (ZQ key af text l)=some (.ret,ZQ key af text l):=by kernel_rfl
end
theorem U0:Jx= .block 0 (.rangeFunc (rfG (inner Jx)) (rfP (inner Jx)) (rfA (inner Jx)) (ZH (inner Jx))):=by kernel_rfl
theorem JB:ak 1 mxB= .scope Bj:=by kernel_rfl
theorem OO (key af text:List Int) (n:Int):aU 0 (mx2 key af text n) ⟨Sp,ZJ key af text (jU key af n text 0) 0 n,true⟩:=by
 have e:List.replicate text.length (0:Int)=jU key af n text 0:=by simp [jU]
 unfold mx2
 rw [e]
 refine aU.ZT ⟨PE.refl _,PE.refl _,PE.refl _,⟨rfl,?_⟩,PE.refl _,PE.refl _,PE.refl _,trivial⟩
 rintro e xs ⟨y,zs,hy,hz,rfl⟩
 refine ⟨y,zs,?_,hz,rfl⟩
 rcases hy with h|⟨p,c,a,h1,h2,h3,h4,_,h6,h7⟩
 ·exact .inl h
 ·exact .inr ⟨p,c,a,h1,h2,h3,h4,(by simp),h6,h7⟩
theorem JC {af text:List Int} {n:Int} (hn:af.length=12) (h0:0≤n) (h1:n+(text.length/64:Nat)≤4294967295) (hl:text.length≤281474976710656):mhO af text n=true:=by
 unfold mhO
 have e1:((text.length:Int)+64-1).tdiv 64=(((text.length+63)/64:Nat):Int):=by
  rw [show (text.length:Int)+64-1=((text.length+63:Nat):Int) by omega,Int.tdiv_eq_ediv_of_nonneg (by omega)]
  omega
 rw [wrap_i64 ((text.length:Int)+64) (by omega) (by omega),wrap_i64 ((text.length:Int)+64-1) (by omega) (by omega),e1,wrap_i64 (((text.length+63)/64:Nat):Int) (by omega) (by omega),wrap_i64 (4294967295-n) (by omega) (by omega),wrap_i64 (4294967295-n+1) (by omega) (by omega),wrap_i64 (text.length:Int) (by omega) (by omega)]
 rw [hn,decide_eq_true h0,decide_eq_true (show n≤4294967295 by omega),decide_eq_false (show ¬((((text.length+63)/64:Nat):Int)>4294967295-n+1) by omega),decide_eq_true (show (1:Int)*(text.length:Int)≤281474976710656 by omega),beq_self_eq_true]
 rfl
theorem JD {key af text:List Int} {n:Int} (hn:af.length=12) (h0:0≤n) (h1:n+(text.length/64:Nat)≤4294967295) (hl:text.length≤281474976710656):
  aj Tryz.prog 71 [.agg [.ints .u8 32 key],.ro false .u8 af,.int .i64 n,.ro false .u8 text] [] (.bk [.sl 2 0 0 1 text.length text.length false false,.nl .nilIface]) [.b [.ints .u8 32 key],.b [.ro false .u8 text],.b [.ints .u8 text.length (cI key af n text)]]:=by
 have BS:Tr Tryz.prog none 0 Jx ⟨Sp,ZJ key af text (jU key af n text 0) 0 n,true⟩ .normal ⟨Sp,tX key af text (cI key af n text) text.length n none,true⟩:=by
  rw [U0]
  refine Tr.block ?_
  exact Tr.range (q:=some (.exit 0)) (first:=[]) (jX:=[.ptr 6 0 0,.ptr 4 0 0,.ptr 5 0 0]) (v:=.bk []) true Tryz.func146 (by decide) rfl (by kernel_rfl) (h1:=fun l=>tX key af text (cI key af n text) text.length n (some (Nn l))) (fun l=>ZM hn h0 h1 l) (fun l=>⟨Nn l,by kernel_rfl,by kernel_rfl,by simp [Nn],by kernel_rfl⟩) (fun l=>rfl) rfl
 have hin:Tr Tryz.prog none 0 (ak 1 mxB) (mx1 key af text n) .ret (ZQ key af text (cI key af n text)):=by
  rw [JB]
  refine Tr.scope (Tr.aD ?_) (by simp)
  refine aG.items xA 60 8 _ 7 (by simp) (ZP key af text n) (JC hn h0 h1 hl) (by decide) ?_
  refine aG.pre ?_ (OO key af text n) (by decide)
  refine aG.item 8 (by decide) BS ?_
  refine aG.items xA 60 1 _ 3 (by simp) (ZR key af text _ n) rfl (by decide) ?_
  exact aG.rest xA 60 (ZS key af text _) rfl
 have k:aj Tryz.prog 71 [.agg [.ints .u8 32 key],.ro false .u8 af,.int .i64 n,.ro false .u8 text] [] (.bk [.sl 2 0 0 1 text.length text.length false false,.nl .nilIface]) [.b [.ints .u8 32 key],.b [.ro false .u8 text],.b [.ints .u8 text.length (cI key af n text)]]:=by
  refine aj.mk (vs:=[.sl 2 0 0 1 text.length text.length false false,.nl .nilIface]) Tryz.func71 rfl (x:=.ret) (s:=ZQ key af text (cI key af n text)) ?_ (.inl rfl) (by kernel_rfl)
  refine aG.items xA 60 1 _ 2 (by simp) (ZO key af text n) rfl (by decide) ?_
  exact aG.leave 1 (by decide) (by simp) hin
 exact k
theorem BT {key af text:List Int} {n:Int} (hn:af.length=12) (h0:0≤n) (h1:n+(text.length/64:Nat)≤4294967295) (hl:text.length≤281474976710656):
  aj Tryz.prog 71 [.agg [.ints .u8 32 key],.ro false .u8 af,.int .i64 n,.ro false .u8 text] [] (.bk [.ro true .u8 (cI key af n text),.nl .nilIface]) []:=by
 have hw:(cI key af n text).length=text.length:=by simp [cI]
 have k:=JD (key:=key) hn h0 h1 hl
 have k3:=aj.fz 2 0 (by simp) (by simp) k (u:=.bk [.ro true .u8 (((cI key af n text).drop 0).take text.length),.nl .nilIface]) (h2:=[]) (p:=aa (decide ((cI key af n text).length=text.length)) (decide (0+text.length≤text.length)&&true)) (by kernel_rfl) (by rw [hw,Nat.zero_add,decide_eq_true rfl,decide_eq_true (Nat.le_refl _)];rfl)
 rw [List.drop_zero,List.take_of_length_le (by omega)] at k3
 exact k3
noncomputable def Ss:List SV→Option (SV×List Blk×Bool)
 | [.agg [.ints .u8 32 key],.ro false .u8 af,.int .i64 n,.ro false .u8 text]=>some (.bk [.sl 0 0 0 1 text.length text.length false false,.nl .nilIface],[.b [.ints .u8 text.length (cI key af n text)]],decide (af.length=12)&&decide (0≤n)&&decide (n+(text.length/64:Nat)≤4294967295)&&decide (text.length≤281474976710656))
 |_=>none
noncomputable def ah5:Entry Tryz.prog:=.val 71 _ Tryz.func71 (by decide) rfl true 1 Ss fun vs v new e=>by
 unfold Ss at e
 split at e
 ·simp only [Option.some.injEq,Prod.mk.injEq,Bool.and_eq_true,decide_eq_true_eq] at e
  obtain ⟨rfl,rfl,⟨⟨h1,h2⟩,h3⟩,h4⟩:=e
  exact aj.R8 [2] (JD h1 h2 h3 h4) (by kernel_rfl)
 ·cases e
noncomputable def JE:List SV→Option (SV×List Blk×Bool)
 | [.agg [.ints .u8 32 key],.ro false .u8 af,.int .i64 n,.ro false .u8 text]=>some (.bk [.ro true .u8 (cI key af n text),.nl .nilIface],[],decide (af.length=12)&&decide (0≤n)&&decide (n+(text.length/64:Nat)≤4294967295)&&decide (text.length≤281474976710656))
 |_=>none
noncomputable def NV:Entry Tryz.prog:=.val 71 _ Tryz.func71 (by decide) rfl true 0 JE fun vs v new e=>by
 unfold JE at e
 split at e
 ·simp only [Option.some.injEq,Prod.mk.injEq,Bool.and_eq_true,decide_eq_true_eq] at e
  obtain ⟨rfl,rfl,⟨⟨h1,h2⟩,h3⟩,h4⟩:=e
  exact BT h1 h2 h3 h4
 ·cases e
end Go.Proofs.YtibfpjeeanppjaaGreat.Cc
