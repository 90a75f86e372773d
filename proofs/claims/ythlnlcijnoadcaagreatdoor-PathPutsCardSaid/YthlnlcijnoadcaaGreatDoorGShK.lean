/- This file holds the texts ShG, ShH, ShI, ShJ, ShK, a section each. No conditions beyond those in the theorems. -/
import Derived.Test.YthlnlcijnoadcaaGreatDoorGShF
noncomputable section
open Go.Proofs.Tryz
open Go.IntKind (i64 u8 u64 u32)
set_option linter.all false
set_option maxRecDepth 100000
section
namespace Go.Proofs.YthlnlcijnoadcaaGreatDoor.Sh
open Go Go.Sy
def age (vs:List SV):List Nat:=match vs with
 | [_,_,.ptr b _ _]=>[b]
 |_=>[]
def Ia:Option (SV×List Blk×Bool)->List Int
 |some (.agg [.ints _ _ l],_,_)=>l
 |_=>[]
def kL:List Int:=Ia (aG prog (mk (P:=prog) [] []) 60 f247 [] [])
def bL:List Int:=Ia (aG prog (mk (P:=prog) [] []) 60 f208 [] [])
def Ib:List SV->Option (SV×List Blk×Bool)
 | []=>some (.agg [.ints .u64 80 kL],[],true)
 |_=>none
def Ra:Entry prog:=.val 247 _ func247 (by decide) rfl false 0 Ib λvs v new e=>by
 unfold Ib at e
 split at e
 ·cases e
  exact aI pT 60 func247 (p:=true) (by kernel_rfl) rfl rfl
 ·cases e
def Ic:List SV->Option (SV×List Blk×Bool)
 | []=>some (.agg [.ints .u64 8 bL],[],true)
 |_=>none
def Rh:Entry prog:=.val 208 _ func208 (by decide) rfl false 0 Ic λvs v new e=>by
 unfold Ic at e
 split at e
 ·cases e
  exact aI pT 60 func208 (p:=true) (by kernel_rfl) rfl rfl
 ·cases e
def On:bO:=mk (P:=prog) [] [] λi=>if i=6 then some false else none
theorem qz:ak prog On:=az _ aL.nil _ _
def Ie:List SV->Option (SV×List Blk×Bool)
 | [.ro false .u8 xs,.int .i64 n]=>some (.fn (.func 250) [] [.ptr 0 0 0,.ptr 1 0 0],[.b [.ro false .u8 xs],.b [.int .i64 n]],!decide (n<1))
 |_=>none
def HJ:Entry prog:=.val 212 _ func212 (by decide) rfl true 2 Ie λvs v new e=>by
 unfold Ie at e
 split at e
 ·rename_i xs n
  simp only [No,aae] at e
  obtain ⟨rfl,rfl,h⟩:=e
  exact lK qz 30 func212 2 (by simp) (p:=aa true (!decide (n<1))) (by kernel_rfl) (by rw [h];rfl) rfl rfl
 ·cases e
end Go.Proofs.YthlnlcijnoadcaaGreatDoor.Sh
end
section
namespace Go.Proofs.YthlnlcijnoadcaaGreatDoor.Sh
open Go Go.Sy
def uh:Code:=aP f250
def vU (p:List Int) (i:Int):Int:=i64.wrap (i+if ((p.drop i.toNat).length:Int)<128 then ((p.drop i.toNat).length:Int) else 128)
def UU (p:List Int) (i:Int):List Int:=(p.drop i.toNat).take ((vU p i).toNat-i.toNat)
end Go.Proofs.YthlnlcijnoadcaaGreatDoor.Sh
end
section
namespace Go.Sy
open Go
variable {P:Program}
theorem bE.nothing {k:Nat} {t:List (Option SV)} {h:List Blk} {o o':Bool} (i:Nat) (K:IntKind) (ex wh:Bool) (hi:t[i]? =some (some (.nl (.slice none 0 0)))):
  bE k ⟨t,h,o⟩ ⟨t.set i (some (.sl h.length 0 0 1 0 0 ex wh)),h++[.b [.ints K 0 []]],o'⟩:=λB e w t' _ hl R=>⟨e,rfl,⟨by simpa using hl.1,λj v v' a c=>by
  rw [List.getElem?_set] at a
  split at a
  ·rename_i q
   subst q
   split at a
   ·simp only [No] at a
    subst a
    have h1:v'= .slice none 0 0:=hl.2 _ _ v' hi c
    exact .inl ⟨rfl,rfl,none,h1⟩
   ·cases a
  ·exact hl.2 j v v' a c⟩,by
  have:=R.nothing (j:=h.length) (ps:=[.ints K 0 []]) (.inl rfl) rfl
  unfold bI at this
  rw [aaM rfl] at this
  exact this⟩
end Go.Sy
namespace Go.Proofs.YthlnlcijnoadcaaGreatDoor.Sh
open Go Go.Sy
def aat:Option (SV×List Blk×Bool)->List Int
 |some (_,[.b [.ints _ _ l]],_)=>l
 |_=>[]
theorem Es:ai prog 169 [] [] (.ro true .u64 kL) []:=
 ai.frozen (N:=80) (ex:=true) (wh:=true) (ai.bg pT func169 (n:=60) (by kernel_rfl)) (by kernel_rfl)
theorem Et:ai prog 122 [] [] (.ro true .u64 bL) []:=
 ai.frozen (N:=8) (ex:=true) (wh:=true) (ai.bg pT func122 (n:=60) (by kernel_rfl)) (by kernel_rfl)
def CI:List SV->Option (SV×List Blk×Bool)
 | []=>some (.ro true .u64 kL,[],true)
 |_=>none
def LU:Entry prog:=.val 169 _ func169 (by decide) rfl false 0 CI λvs v new e=>by
 unfold CI at e
 split at e
 ·cases e;exact Es
 ·cases e
def CJ:List SV->Option (SV×List Blk×Bool)
 | []=>some (.ro true .u64 bL,[],true)
 |_=>none
def LV:Entry prog:=.val 122 _ func122 (by decide) rfl false 0 CJ λvs v new e=>by
 unfold CJ at e
 split at e
 ·cases e;exact Et
 ·cases e
end Go.Proofs.YthlnlcijnoadcaaGreatDoor.Sh
end
section
namespace Go.Proofs.YthlnlcijnoadcaaGreatDoor.Sh
open Go Go.Sy
def qB:Code:=aP f124
def qC (b:Bool):bO:=mk (P:=prog) [] [] λi=>if i=23 then some b else none
theorem vX (b:Bool):ak prog (qC b):=az _ aL.nil _ _
def qS (m:Nat) (l xs:List Int) (pc sz:Int):St:=⟨slotsOf 62 [(0,.ro false .u8 xs),(1,.int .i64 pc),(2,.int .i64 sz),(7,.sl 0 0 0 1 m m false true)],[.b [.ints .u8 m l]],true⟩
section
variable (m:Nat) (l xs:List Int) (pc sz:Int)
theorem CK:(aE prog (qC true) 60 0 2 (atoms qB) ⟨aD f124.ntmps [.ro false .u8 xs,.int .i64 pc,.int .i64 sz],[],true⟩).bind (St.cut [0,1,2,7] 1)=
  some {qS (0+xs.length+1) (xs++[128]) xs pc sz with ob:=aa (aa true (aa true (decide (0+xs.length<=2^38)))) (LW xs.length (0+xs.length))}:=by kernel_rfl
theorem RP:(exec prog (qC true) 60 0 (inner (inner (au 2 qB))) (qS m l xs pc sz)).bind (λr=>(r.2.cut [0,1,2,7] 1).map λq=>(r.1,q))=
  some (.normal,{qS (m+1) (l++[0]) xs pc sz with ob:=aa (aa (aa true (pc != 0)) ((m:Int).tmod pc != i64.wrap (pc-sz))) (LW l.length m)}):=by kernel_rfl
theorem RQ:(exec prog (qC false) 60 0 (inner (inner (au 2 qB))) (qS m l xs pc sz)).bind (λr=>(r.2.cut [0,1,2,7] 1).map λq=>(r.1,q))=
  some (.exit 0,{qS m l xs pc sz with ob:=aa (aa true (pc != 0)) (!((m:Int).tmod pc != i64.wrap (pc-sz)))}):=by kernel_rfl
end
theorem CL {xs:List Int} {pc sz q:Nat} (hq:q+sz=pc) (hsz:0<sz) (hpc:pc<1000) (hx:xs.length<274877900000):
  Tr prog none 0 (au 2 qB) (qS (xs.length+1) (xs++[128]) xs pc sz) .normal (qS (xs.length+1+c9 xs.length pc q) (eE xs pc q) xs pc sz):=by
 obtain ⟨k1,k2⟩:=pW (len:=xs.length) (show q<pc by omega)
 have hK:c9 xs.length pc q<pc:=Nat.mod_lt _ (by omega)
 have hne:(((pc:Nat):Int) != 0)=true:=bne_iff_ne.2 (by omega)
 have hw:i64.wrap ((pc:Int)-(sz:Int))=((q:Nat):Int):=by rw [wrap_i64 _ (by omega) (by omega)];omega
 have hm:∀j:Nat,((xs.length+1+j:Nat):Int).tmod (pc:Int)=(((xs.length+1+j)%pc:Nat):Int):=λj=>by
  rw [Int.tmod_eq_emod_of_nonneg (by omega),Int.natCast_emod]
 have key:=Tr.loop (P:=prog) (ro:=none) (k:=0) 0 (c:=au 2 qB) (by kernel_rfl) (λj:Nat=>qS (xs.length+1+j) (xs++[128]++List.replicate j 0) xs pc sz) (c9 xs.length pc q) (s':=qS (xs.length+1+c9 xs.length pc q) (eE xs pc q) xs pc sz) (λj hj=>?_) ?_
 ·refine Tr.pre key (bE.same rfl ?_)
  show [_]=[_]
  simp
 ·have k:=RP (xs.length+1+j) (xs++[128]++List.replicate j 0) xs pc sz
  have hl:(xs++[128]++List.replicate j 0).length=xs.length+1+j:=by simp;omega
  rw [hne,hm,hw,hl,fZ (by omega),bne_iff_ne.2 (show (((xs.length+1+j)%pc:Nat):Int)≠((q:Nat):Int) from λh=>k2 j hj (by omega))] at k
  refine Tr.post (Tr.cut (vX true) 60 _ 1 (by omega) k rfl) (bE.same rfl ?_)
  show [_]=[_]
  rw [List.replicate_succ', <-aaE];rfl
 ·have k:=RQ (xs.length+1+c9 xs.length pc q) (eE xs pc q) xs pc sz
  rw [hne,hm,hw,k1] at k
  exact Tr.post (Tr.cut (vX false) 60 _ 1 (by omega) k (by simp [aa])) (bE.same rfl rfl)
def dQ (n:Int):Nat->Int
 |0=>i64.wrap (n.tdiv 32)
 |i+1=>i64.wrap ((dQ n i).tdiv 256)
def mM (n:Int):Nat->Int
 |0=>u8.wrap (i64.wrap (n.tmod 32*8))
 |i+1=>u8.wrap ((dQ n i).tmod 256)
def qL (l:List Int) (n:Int) (sz:Nat):Nat->List Int
 |0=>l
 |i+1=>qL l n sz i++[mM n (sz-1-i)]
def qO (l:List Int) (n:Int) (sz m:Nat):Nat->Bool
 |0=>true
 |i+1=>aa (qO l n sz m i) (LW (qL l n sz i).length (m+i))
theorem xI (l:List Int) (n:Int) (sz:Nat):∀i,(qL l n sz i).length=l.length+i
 |0=>rfl
 |i+1=>by rw [qL,aar,xI l n sz i];rfl
theorem xJ {l:List Int} (n:Int) (sz:Nat) {m:Nat} (h:l.length=m) (hm:m<274877901000):∀i,i<1000->qO l n sz m i=true
 |0,_=>rfl
 |i+1,hi=>by rw [qO,xJ n sz h hm i (by omega),xI,h,fZ (by omega)];rfl
theorem Ig (l:List Int) (n:Int) (sz:Nat):∀i,qL l n sz i=l++(List.range i).map λj=>mM n (sz-1-j)
 |0=>by simp [qL]
 |i+1=>by rw [qL,Ig l n sz i,List.range_succ,List.map_append,aaE];rfl
def En (n:Int) (sz:Nat):List Int:=(List.range sz).map λj=>mM n (sz-1-j)
theorem Mm {xs:List Int} (hx:xs.length<274877900000):ai prog 124 [.ro false .u8 xs,.int .i64 128,.int .i64 16] [] (.ro true .u8 (eE xs 128 112++En xs.length 16)) []:=by
 have hK:c9 xs.length 128 112<128:=Nat.mod_lt _ (by omega)
 have hl:=g7 xs 128 112
 have hq:=Ig (eE xs 128 112) xs.length 16 16
 show ai prog 124 [.ro false .u8 xs,.int .i64 128,.int .i64 16] [] (.ro true .u8 (eE xs 128 112++(List.range 16).map λj=>mM xs.length (16-1-j))) []
 rw [<-hq]
 refine ai.frozen (N:=xs.length+1+c9 xs.length 128 112+16) (ex:=false) (wh:=true) ?_ (by rw [xI,hl])
 refine ai.mE (vX false) 60 3 1 func124 (by simp) rfl (λs' x h=>?_) (s:=qS (xs.length+1+c9 xs.length 128 112) (eE xs 128 112) xs 128 16)
  (p:=qO (eE xs 128 112) xs.length 16 (xs.length+1+c9 xs.length 128 112) 16) (by kernel_rfl) (xJ _ _ hl (by omega) _ (by omega)) rfl rfl
 have hh:=CK xs 128 16
 rw [abC] at hh
 refine aV.items (vX true) 60 2 _ 1 (by simp) hh (by rw [fZ (by omega),Me (by omega)];rfl) (by decide) ?_
 exact aV.item 2 (by decide) (Tr.pre (CL (pc:=128) (sz:=16) (q:=112) rfl (by decide) (by decide) hx) (bE.same rfl rfl)) h
theorem Ih {xs:List Int} (hx:xs.length<274877900000):ai prog 124 [.ro false .u8 xs,.int .i64 64,.int .i64 8] [] (.ro true .u8 (eE xs 64 56++En xs.length 8)) []:=by
 have hK:c9 xs.length 64 56<64:=Nat.mod_lt _ (by omega)
 have hl:=g7 xs 64 56
 have hq:=Ig (eE xs 64 56) xs.length 8 8
 show ai prog 124 [.ro false .u8 xs,.int .i64 64,.int .i64 8] [] (.ro true .u8 (eE xs 64 56++(List.range 8).map λj=>mM xs.length (8-1-j))) []
 rw [<-hq]
 refine ai.frozen (N:=xs.length+1+c9 xs.length 64 56+8) (ex:=false) (wh:=true) ?_ (by rw [xI,hl])
 refine ai.mE (vX false) 60 3 1 func124 (by simp) rfl (λs' x h=>?_) (s:=qS (xs.length+1+c9 xs.length 64 56) (eE xs 64 56) xs 64 8)
  (p:=qO (eE xs 64 56) xs.length 8 (xs.length+1+c9 xs.length 64 56) 8) (by kernel_rfl) (xJ _ _ hl (by omega) _ (by omega)) rfl rfl
 have hh:=CK xs 64 8
 rw [abC] at hh
 refine aV.items (vX true) 60 2 _ 1 (by simp) hh (by rw [fZ (by omega),Me (by omega)];rfl) (by decide) ?_
 exact aV.item 2 (by decide) (Tr.pre (CL (pc:=64) (sz:=8) (q:=56) rfl (by decide) (by decide) hx) (bE.same rfl rfl)) h
end Go.Proofs.YthlnlcijnoadcaaGreatDoor.Sh
end
section
namespace Go.Proofs.YthlnlcijnoadcaaGreatDoor.Sh
open Go Go.Sy
def ad1 (xs:List Int):List Int:=eE xs 128 112++En xs.length 16
def fJ (xs:List Int):List Int:=eE xs 64 56++En xs.length 8
def OU:List SV->Option (SV×List Blk×Bool)
 | [.ro false .u8 xs,.int .i64 pc,.int .i64 sz]=>bif pc==128&&sz==16 then some (.ro true .u8 (ad1 xs),[],decide (xs.length<274877900000)) else bif pc==64&&sz==8 then some (.ro true .u8 (fJ xs),[],decide (xs.length<274877900000)) else none
 |_=>none
def X7:Entry prog:=.val 124 _ func124 (by decide) rfl true 0 OU λvs v new e=>by
 unfold OU at e
 split at e
 ·rename_i xs pc sz
  by_cases h1:(pc==128&&sz==16)=true
  ·rw [h1] at e
   simp only [aac,aaS] at h1
   obtain ⟨rfl,rfl⟩:=h1
   simp only [aeL,No,aae,aab] at e
   obtain ⟨rfl,rfl,h⟩:=e
   exact Mm h
  ·rw [Bool.not_eq_true] at h1
   rw [h1] at e
   by_cases h2:(pc==64&&sz==8)=true
   ·rw [h2] at e
    simp only [aac,aaS] at h2
    obtain ⟨rfl,rfl⟩:=h2
    simp only [aeL,cond_false,No,aae,aab] at e
    obtain ⟨rfl,rfl,h⟩:=e
    exact Ih h
   ·rw [Bool.not_eq_true] at h2
    rw [h2] at e
    cases e
 ·cases e
end Go.Proofs.YthlnlcijnoadcaaGreatDoor.Sh
end
