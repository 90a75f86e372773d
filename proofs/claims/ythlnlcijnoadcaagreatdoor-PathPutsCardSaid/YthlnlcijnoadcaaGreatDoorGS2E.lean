/- This file holds the texts S2C, S2D, S2E, a section each. No conditions beyond those in the theorems. -/
import Derived.Test.YthlnlcijnoadcaaGreatDoorGS2B
import Derived.Test.YthlnlcijnoadcaaGreatDoorGShK
noncomputable section
open Go.Proofs.Tryz
open Go.IntKind (i64 u8 u64 u32)
set_option linter.all false
set_option maxRecDepth 100000
section
namespace Go.Proofs.YthlnlcijnoadcaaGreatDoor.S2
open Go Go.Sy Sh
theorem uj (p:List Int) (j:Nat):(p.drop (64*j)).take 64=(p.take (64*(j+1))).drop (64*j):=by
 rw [adi,show 64*(j+1)-64*j=64 by omega]
theorem uk {p q:List Int} (kk s:List Int):∀j,p.take (64*j)=q.take (64*j)->jq p kk s j=jq q kk s j
 |0,_=>rfl
 |j+1,h=>by
  have h0:p.take (64*j)=q.take (64*j):=by
   have:=adX (List.take (64*j)) h
   rwa [adD,adD,ab6 (by omega)] at this
  simp only [jq]
  rw [uk kk s j h0,uj,uj,h]
theorem qF (p kk s:List Int) (N:Nat):∀j,jq p kk s (N+j)=jq (p.drop (64*N)) kk (jq p kk s N) j
 |0=>rfl
 |j+1=>by
  show gG (jq p kk s (N+j)) ((p.drop (64*(N+j))).take 64) kk=gG (jq (p.drop (64*N)) kk (jq p kk s N) j) (((p.drop (64*N)).drop (64*j)).take 64) kk
  rw [qF p kk s N j,aa4,show 64*N+64*j=64*(N+j) by omega]
def OJ (xs:List Int):Blk:=dg (jq xs lT si (xs.length/64)) (xs.drop (64*(xs.length/64))) xs.length
theorem LQ (xs b:List Int):jq (xs.drop (64*(xs.length/64))++b) lT (jq xs lT si (xs.length/64)) ((xs.drop (64*(xs.length/64))++b).length/64)=jq (xs++b) lT si ((xs++b).length/64)/\
  (xs.drop (64*(xs.length/64))++b).drop (64*((xs.drop (64*(xs.length/64))++b).length/64))=(xs++b).drop (64*((xs++b).length/64)):=by
 have hN:64*(xs.length/64)<=xs.length:=by omega
 generalize hn:xs.length/64=N at*
 have e:xs.drop (64*N)++b=(xs++b).drop (64*N):=(abh hN).symm
 have et:jq xs lT si N=jq (xs++b) lT si N:=uk _ _ _ (by rw [aaI hN])
 have hl:((xs++b).drop (64*N)).length=(xs++b).length-64*N:=aaN ..
 have iI:xs.length<=(xs++b).length:=by simp
 have hq:(xs++b).length/64=N+((xs++b).drop (64*N)).length/64:=by rw [hl];omega
 rw [e,et, <-qF,hq,aa4,show 64*N+64*(((xs++b).drop (64*N)).length/64)=64*(N+((xs++b).drop (64*N)).length/64) by omega]
 exact ⟨rfl,rfl⟩
def pX (xs:List Int):List Int:=mL xs xs.length
def dB (xs:List Int):List Int:=uQ (DP (jq (pX xs) lT si ((pX xs).length/64)))
theorem tF (xs:List Int):(dB xs).length=32:=by rw [dB,fh];simp [DP]
theorem vM (xs:List Int):∀x∈dB xs,0<=x/\x<256:=by
 intro x hx
 simp only [dB,fh,DP,List.mem_map] at hx
 obtain ⟨i,_,rfl⟩:=hx
 simp only [IntKind.wrap,IntKind.signed,IntKind.bits]
 simp
 omega
theorem LS (xs:List Int):zA (jq xs lT si (xs.length/64)) (xs.drop (64*(xs.length/64))) xs.length=dB xs:=by
 have hN:64*(xs.length/64)<=xs.length:=by omega
 generalize hn:xs.length/64=N at*
 have hr:(xs.drop (64*N)).length=xs.length-64*N:=aaN ..
 have hk:c9 (xs.drop (64*N)).length 64 56=c9 xs.length 64 56:=by unfold c9;rw [hr];omega
 have e:mL (xs.drop (64*N)) xs.length=(pX xs).drop (64*N):=by
  unfold pX mL eE
  rw [hk,aaE,aaE,aaE,aaE,abh hN]
 have et:jq xs lT si N=jq (pX xs) lT si N:=uk _ _ _ (by
  unfold pX mL eE
  rw [aaE,aaE,aaI hN])
 have hl:((pX xs).drop (64*N)).length=(pX xs).length-64*N:=aaN ..
 have iI:xs.length<=(pX xs).length:=by unfold pX mL eE;simp only [aar];omega
 have hq:(pX xs).length/64=N+((pX xs).drop (64*N)).length/64:=by rw [hl];omega
 rw [zA,dB,fh,e,et, <-qF,hq]
def hC (x:Bool):bO:=mk (P:=prog) [adT,XP,adW] [] λi=>if i=10 then some x else none
theorem CD (x:Bool):ak prog (hC x):=az _ aL.nil _ _
def hB:Code:=aP f119
def hS (xss:List (List Int)) (d:Blk) (i:Int):St:=⟨slotsOf 19 [(2,.ptr 0 0 0),(3,.ptr 1 0 0),(7,.gf false xss),(8,.int .i64 xss.length),(9,.int .i64 i)],[.b [.ints .u8 32 cH],d],true⟩
section
variable (xss:List (List Int)) (st r:List Int) (n i:Int)
theorem Rp:(aE prog (hC true) 60 0 3 (atoms hB) ⟨aD f119.ntmps [.gf false xss],[],true⟩).bind (St.cut [2,3,7,8,9] 2)=some (hS xss (dg si [] 0) 0):=by kernel_rfl
theorem X4:(exec prog (hC true) 60 0 (inner (inner (au 3 hB))) (hS xss (dg st r n) i)).bind (λr=>(r.2.cut [2,3,7,8,9] 2).map λq=>(r.1,q))=
  some (.normal,{hS xss (dg (jq (r++xss.getD i.toNat []) lT st ((r++xss.getD i.toNat []).length/64)) ((r++xss.getD i.toNat []).drop (64*((r++xss.getD i.toNat []).length/64))) (i64.wrap (n+(xss.getD i.toNat []).length))) (i64.wrap (i+1)) with
   ob:=aa (aa (aa (aa true (decide (i<xss.length))) (aX i xss.length)) (decide (i.toNat<xss.length))) (aa true (decide (st.length=8)&&decide (r.length+(xss.getD i.toNat []).length<274877900000)))}):=by kernel_rfl
theorem X5:(exec prog (hC false) 60 0 (inner (inner (au 3 hB))) (hS xss (dg st r n) i)).bind (λr=>(r.2.cut [2,3,7,8,9] 2).map λq=>(r.1,q))=
  some (.exit 0,{hS xss (dg st r n) i with ob:=aa true (!decide (i<xss.length))}):=by kernel_rfl
end
theorem vV {xss:List (List Int)} {j:Nat} (h:j<xss.length):(xss.take (j+1)).flatten=(xss.take j).flatten++xss.getD j []:=by
 rw [List.take_add_one,List.flatten_append,aba,aai h]
 simp
theorem HN (xss:List (List Int)) (j:Nat):(xss.take j).flatten.length<=xss.flatten.length:=by
 conv=>rhs;rw [<-abr j xss,List.flatten_append,aar]
 omega
theorem HO {xss:List (List Int)} (h1:xss.flatten.length<274877900000) (h2:xss.length<=274877906944):ai prog 119 [.gf false xss] [] (.agg [.ints .u8 32 (dB xss.flatten)]) []:=by
 have HL:Tr prog none 0 (au 3 hB) (hS xss (OJ []) 0) .normal (hS xss (OJ xss.flatten) xss.length):=by
  have key:=Tr.loop (P:=prog) (ro:=none) (k:=0) 0 (c:=au 3 hB) (by kernel_rfl) (λj:Nat=>hS xss (OJ (xss.take j).flatten) j) xss.length (s':=hS xss (OJ xss.flatten) xss.length) (λj hj=>?_) ?_
  ·exact key
  ·generalize hx:(xss.take j).flatten=xs
   have hl:=HN xss (j+1)
   rw [vV hj,hx,aar] at hl
   have k:=X4 xss (jq xs lT si (xs.length/64)) (xs.drop (64*(xs.length/64))) xs.length j
   obtain ⟨e1,e2⟩:=LQ xs (xss.getD j [])
   rw [aaa,e1,e2,wrap_i64 (_+_) (by omega) (by omega),wrap_i64 _ (by omega) (by omega),Me (r9 xC _),Me (show (xs.drop (64*(xs.length/64))).length+(xss.getD j []).length<274877900000 by rw [aaN];omega),
    Me (show (j:Int)<xss.length by omega),ct (by omega) (by omega),Me hj] at k
   refine Tr.post (Tr.cut (CD true) 60 _ 2 (by omega) k rfl) (bE.same ?_ ?_)
   ·show (hS xss (OJ []) _).t=(hS xss (OJ []) _).t
    rw [show ((j:Int)+1)=((j+1:Nat):Int) by omega]
   ·show [_,_]=[_,_]
    rw [vV hj,hx]
    unfold OJ
    rw [aar,Int.natCast_add]
  ·have k:=X5 xss (jq xss.flatten lT si (xss.flatten.length/64)) (xss.flatten.drop (64*(xss.flatten.length/64))) xss.flatten.length xss.length
   rw [adA]
   exact Tr.post (Tr.cut (CD false) 60 _ 2 (by omega) k (by simp [aa])) (bE.same rfl rfl)
 rw [<-LS]
 refine ai.mE (CD true) 60 4 0 func119 (by simp) rfl (λs' x h=>?_) (s:=hS xss (OJ xss.flatten) xss.length)
  (p:=aa true (aa true (decide ((jq xss.flatten lT si (xss.flatten.length/64)).length=8)&&decide ((xss.flatten.drop (64*(xss.flatten.length/64))).length<274877900000)))) (by kernel_rfl) ?_ rfl rfl
 ·refine aV.items (CD true) 60 3 _ 2 (by simp) (Rp xss) rfl (by decide) ?_
  exact aV.item 3 (by decide) (Tr.pre HL (bE.same rfl rfl)) h
 ·rw [Me (r9 xC _),Me (show (xss.flatten.drop (64*(xss.flatten.length/64))).length<274877900000 by rw [aaN];omega)];rfl
def HQ:List SV->Option (SV×List Blk×Bool)
 | [.gf false xss]=>some (.agg [.ints .u8 32 (dB xss.flatten)],[],decide (xss.flatten.length<274877900000)&&decide (xss.length<=274877906944))
 |_=>none
def xg:Entry prog:=.val 119 _ func119 (by decide) rfl true 0 HQ λvs v new e=>by
 unfold HQ at e
 split at e
 ·simp only [No,aae,aac,aab] at e
  obtain ⟨rfl,rfl,h1,h2⟩:=e
  exact HO h1 h2
 ·cases e
end Go.Proofs.YthlnlcijnoadcaaGreatDoor.S2
end
section
namespace Go.Proofs.YthlnlcijnoadcaaGreatDoor.Q2
open Go Go.Sy Sh
abbrev V (n:Int):Int:=u32.wrap n
def um (x n:Int):Int:=V (e6 .u32 x n.toNat+jS .u32 x (Sh.W (32-n)).toNat)
def OL:List SV->Option (SV×List Blk×Bool)
 | [.int .u32 x,.int .u64 n]=>some (.int .u32 (um x n),[],decide (0<=n))
 |_=>none
def X6:Entry prog:=.val 125 _ func125 (by decide) rfl false 0 OL λvs v new e=>by
 unfold OL at e
 split at e
 ·rename_i x n
  simp only [No,aae,aab] at e
  obtain ⟨rfl,rfl,h⟩:=e
  exact aI pT 60 func125 (p:=aa (aa true (decide (0<=n))) (W0 (32-n))) (by kernel_rfl) (by rw [Cz,Me h];rfl) rfl
 ·cases e
def sqC:bO:=mk (P:=prog) [LU] []
theorem Rq:ak prog sqC:=az _ aL.nil _ _
theorem Bf:ai prog 123 [] [] (.ro true .u32 S2.lT) []:=
 ai.frozen (N:=64) (ex:=false) (wh:=true) (ai.yN [1] (lK Rq 200 func123 2 (by simp) (v:=.sl 1 0 0 1 64 64 false true) (h1:=[.b [.ints .u32 1 [1116352408]],.b [.ints .u32 64 S2.lT]]) (p:=true) (by kernel_rfl) rfl rfl rfl) (by kernel_rfl)) (by kernel_rfl)
def zB:List SV->Option (SV×List Blk×Bool)
 | []=>some (.ro true .u32 S2.lT,[],true)
 |_=>none
def HR:Entry prog:=.val 123 _ func123 (by decide) rfl false 0 zB λvs v new e=>by
 unfold zB at e
 split at e
 ·cases e;exact Bf
 ·cases e
def rB:Code:=aP f79
def rO:Code:=inner (inner (au 8 rB))
def r3:Code:=inner (au 2 rO)
def rC (a b c d:Bool):bO:=mk (P:=prog) [HR,LV,X6,X7] [] λi=>if i=42 then some a else if i=46 then some b else if i=86 then some c else if i=133 then some d else if i=130 then some true else if i=84 then some true else none
theorem iz (a b c d:Bool):ak prog (rC a b c d):=az _ aL.nil _ _
def chQ (e f g:Int):Int:=eZ .u32 (hD .u32 e f) (hD .u32 (V (4294967295-e)) g)
def UW (x a b c:Int):Int:=eZ .u32 (eZ .u32 (um x a) (um x b)) (um x c)
def t1Q (s:List Int) (k w:Int):Int:=V (V (V (V (s.getD 7 0+UW (s.getD 4 0) 6 11 25)+chQ (s.getD 4 0) (s.getD 5 0) (s.getD 6 0))+k)+w)
def t2Q (s:List Int):Int:=V (UW (s.getD 0 0) 2 13 22+S2.mjW (s.getD 0 0) (s.getD 1 0) (s.getD 2 0))
def Bg (s:List Int) (k w:Int):List Int:=[V (t1Q s k w+t2Q s),s.getD 0 0,s.getD 1 0,s.getD 2 0,V (s.getD 3 0+t1Q s k w),s.getD 4 0,s.getD 5 0,s.getD 6 0]
def nxQ (y x a b:Int):Int:=V (V (V (eZ .u32 (eZ .u32 (um y 17) (um y 19)) (e6 .u32 y 10)+a)+eZ .u32 (eZ .u32 (um x 7) (um x 18)) (e6 .u32 x 3))+b)
def ix (a i:Int):Int:=i64.wrap (a+i64.wrap (4*i))
def wq (p:List Int) (q:Int):Int:=V (V (V (V (V (p.getD q.toNat 0)*16777216)+V (V (p.getD (i64.wrap (q+1)).toNat 0)*65536))+V (V (p.getD (i64.wrap (q+2)).toNat 0)*256))+V (p.getD (i64.wrap (q+3)).toNat 0))
def nxJ (w:List Int) (i:Int):Int:=nxQ (w.getD (0+(i64.wrap (i-2)).toNat) 0) (w.getD (0+(i64.wrap (i-15)).toNat) 0) (w.getD (0+(i64.wrap (i-7)).toNat) 0) (w.getD (0+(i64.wrap (i-16)).toNat) 0)
def nxP (i:Int) (n _l:Nat):Bool:=aa (aa (aa (aa (aa (aa (aa (aa (aa (aa true (decide (i<64))) (aX (i64.wrap (i-15)) n)) (decide (0+(i64.wrap (i-15)).toNat<n))) (aX (i64.wrap (i-2)) n)) (decide (0+(i64.wrap (i-2)).toNat<n)))
 (aX (i64.wrap (i-7)) n)) (decide (0+(i64.wrap (i-7)).toNat<n))) (aX (i64.wrap (i-16)) n)) (decide (0+(i64.wrap (i-16)).toNat<n))) (LW _l n)
def sO (p kk h:List Int) (i:Int):St:=⟨slotsOf 252 [(2,.ptr 0 0 0),(4,.ptr 1 0 0),(6,.ro true .u32 kk),(7,.ro true .u8 p),(8,.int .i64 i)],[.b [.ints .u8 32 S2.cH],.b [.ints .u32 8 (cG 8 h)]],true⟩
def sN (p kk h:List Int) (a:Int):St:=⟨slotsOf 252 [(2,.ptr 0 0 0),(4,.ptr 1 0 0),(6,.ro true .u32 kk),(7,.ro true .u8 p),(8,.int .i64 a),(9,.nl (.slice none 0 0)),(10,.int .i64 0)],[.b [.ints .u8 32 S2.cH],.b [.ints .u32 8 (cG 8 h)]],true⟩
def sA (p kk h:List Int) (a:Int) (n:Nat) (w:List Int) (i:Int):St:=⟨slotsOf 252 [(2,.ptr 0 0 0),(4,.ptr 1 0 0),(6,.ro true .u32 kk),(7,.ro true .u8 p),(8,.int .i64 a),(9,.sl 2 0 0 1 n n false true),(10,.int .i64 i)],[.b [.ints .u8 32 S2.cH],.b [.ints .u32 8 (cG 8 h)],.b [.ints .u32 n w]],true⟩
def sB (p kk h:List Int) (a:Int) (n:Nat) (w:List Int) (i:Int):St:=⟨slotsOf 252 [(2,.ptr 0 0 0),(4,.ptr 1 0 0),(6,.ro true .u32 kk),(7,.ro true .u8 p),(8,.int .i64 a),(9,.sl 2 0 0 1 n n false true),(12,.int .i64 i)],[.b [.ints .u8 32 S2.cH],.b [.ints .u32 8 (cG 8 h)],.b [.ints .u32 n w]],true⟩
def sC (p kk h:List Int) (a:Int) (n:Nat) (w s:List Int) (i:Int):St:=⟨slotsOf 252 [(2,.ptr 0 0 0),(4,.ptr 1 0 0),(6,.ro true .u32 kk),(7,.ro true .u8 p),(8,.int .i64 a),(9,.sl 2 0 0 1 n n false true),(15,.ptr 3 0 0),(16,.int .i64 i)],[.b [.ints .u8 32 S2.cH],.b [.ints .u32 8 (cG 8 h)],.b [.ints .u32 n w],.b [.ints .u32 8 (cG 8 s)]],true⟩
def sD (p kk h:List Int) (a:Int) (n:Nat) (w s:List Int):St:=⟨slotsOf 252 [(2,.ptr 0 0 0),(4,.ptr 1 0 0),(6,.ro true .u32 kk),(7,.ro true .u8 p),(8,.int .i64 a),(15,.ptr 3 0 0),(20,.int .i64 0)],[.b [.ints .u8 32 S2.cH],.b [.ints .u32 8 (cG 8 h)],.b [.ints .u32 n w],.b [.ints .u32 8 (cG 8 s)]],true⟩
def oq (p:List Int) (q i:Int):Bool:=aa (aa (aa (aa (aa (aa (aa (aa (aa true (decide (i<16))) (aX q p.length)) (decide (q.toNat<p.length))) (aX (i64.wrap (q+1)) p.length)) (decide ((i64.wrap (q+1)).toNat<p.length)))
 (aX (i64.wrap (q+2)) p.length)) (decide ((i64.wrap (q+2)).toNat<p.length))) (aX (i64.wrap (q+3)) p.length)) (decide ((i64.wrap (q+3)).toNat<p.length))
section
variable (p kk h w s:List Int) (n:Nat) (a i:Int)
theorem LX:(aE prog (rC true true true true) 60 0 2 (atoms rO) (sO p kk h a)).bind (St.cut [2,4,6,7,8] 2)=some {sO p kk h a with ob:=aa true (decide (a<p.length))}:=by kernel_rfl
theorem LY:(exec prog (rC true true true true) 60 0 (au 3 rO) (sO p kk h a)).bind (λr=>(r.2.cut [2,4,6,7,8] 2).map λq=>(r.1,q))=some (.normal,sO p kk h (i64.wrap (a+64))):=by kernel_rfl
theorem Rr:(exec prog (rC false true true true) 60 0 rO (sO p kk h a)).bind (λr=>(r.2.cut [2,4,6,7,8] 2).map λq=>(r.1,q))=some (.exit 2,{sO p kk h a with ob:=aa true (!decide (a<p.length))}):=by kernel_rfl
theorem LZ:(aE prog (rC true true true true) 60 0 2 (atoms r3) (sO p kk h a)).bind (St.cut [2,4,6,7,8,9,10] 2)=some (sN p kk h a):=by kernel_rfl
theorem Rs:(exec prog (rC true true true true) 60 0 (inner (inner (au 2 r3))) (sA p kk h a n w i)).bind (λr=>(r.2.cut [2,4,6,7,8,9,10] 3).map λq=>(r.1,q))=
  some (.normal,{sA p kk h a (n+1) (w++[wq p (ix a i)]) (i64.wrap (i+1)) with ob:=aa (oq p (ix a i) i) (LW w.length n)}):=by kernel_rfl
theorem Rt:(exec prog (rC true false true true) 60 0 (inner (inner (au 2 r3))) (sA p kk h a n w i)).bind (λr=>(r.2.cut [2,4,6,7,8,9,10] 3).map λq=>(r.1,q))=
  some (.exit 4,{sA p kk h a n w i with ob:=aa true (!decide (i<16))}):=by kernel_rfl
theorem L0:(aE prog (rC true true true true) 60 0 1 ((atoms r3).drop 3) (sA p kk h a n w i)).bind (St.cut [2,4,6,7,8,9,12] 3)=some (sB p kk h a n w 16):=by kernel_rfl
theorem Ru:(exec prog (rC true true true true) 60 0 (inner (inner (au 4 r3))) (sB p kk h a n w i)).bind (λr=>(r.2.cut [2,4,6,7,8,9,12] 3).map λq=>(r.1,q))=
  some (.normal,{sB p kk h a (n+1) (w++[nxJ w i]) (i64.wrap (i+1)) with ob:=nxP i n w.length}):=by kernel_rfl
theorem Rv:(exec prog (rC true true false true) 60 0 (inner (inner (au 4 r3))) (sB p kk h a n w i)).bind (λr=>(r.2.cut [2,4,6,7,8,9,12] 3).map λq=>(r.1,q))=
  some (.exit 6,{sB p kk h a n w i with ob:=aa true (!decide (i<64))}):=by kernel_rfl
theorem HS:(aE prog (rC true true true true) 60 0 2 ((atoms r3).drop 5) (sB p kk h a n w i)).bind (St.cut [2,4,6,7,8,9,15,16] 4)=some (sC p kk h a n w h 0):=by kernel_rfl
theorem L3:(exec prog (rC true true true true) 60 0 (inner (inner (au 7 r3))) (sC p kk h a n w s i)).bind (λr=>(r.2.cut [2,4,6,7,8,9,15,16] 4).map λq=>(r.1,q))=
  some (.normal,{sC p kk h a n w (Bg (cG 8 s) (kk.getD i.toNat 0) (w.getD (0+i.toNat) 0)) (i64.wrap (i+1)) with ob:=aa (aa (aa (aa (aa true (decide (i<64))) (aX i kk.length)) (decide (i.toNat<kk.length))) (aX i n)) (decide (0+i.toNat<n))}):=by kernel_rfl
theorem L4:(exec prog (rC true true true false) 60 0 (inner (inner (au 7 r3))) (sC p kk h a n w s i)).bind (λr=>(r.2.cut [2,4,6,7,8,9,15,16] 4).map λq=>(r.1,q))=
  some (.exit 8,{sC p kk h a n w s i with ob:=aa true (!decide (i<64))}):=by kernel_rfl
theorem HU:(aE prog (rC true true true true) 60 0 1 ((atoms r3).drop 8) (sC p kk h a n w s i)).bind (St.cut [2,4,6,7,8,15,20] 4)=some (sD p kk h a n w s):=by kernel_rfl
theorem L5:(exec prog (rC true true true true) 60 0 (au 9 r3) (sD p kk h a n w s)).bind (λr=>(r.2.cut [2,4,6,7,8] 2).map λq=>(r.1,q))=some (.normal,sO p kk (S2.zx (cG 8 h) (cG 8 s)) a):=by kernel_rfl
end
end Go.Proofs.YthlnlcijnoadcaaGreatDoor.Q2
end
section
namespace Go.Proofs.YthlnlcijnoadcaaGreatDoor.Q2
open Go Go.Sy Sh
def wA (p:List Int) (a:Int):Nat->List Int
 |0=>[]
 |j+1=>wA p a j++[wq p (ix a j)]
def wG (w:List Int):Nat->List Int
 |0=>w
 |j+1=>wG w j++[nxJ (wG w j) (16+j)]
def E3 (s k w:List Int):Nat->List Int
 |0=>s
 |j+1=>Bg (cG 8 (E3 s k w j)) (k.getD j 0) (w.getD j 0)
def oA (p kk h:List Int) (a:Int):List Int:=S2.zx (cG 8 h) (cG 8 (E3 h kk (wG (wA p a 16) 48) 64))
def hN (p kk h:List Int):Nat->List Int
 |0=>h
 |j+1=>oA p kk (hN p kk h j) (64*j:Nat)
theorem xG (p:List Int) (a:Int):∀j,(wA p a j).length=j
 |0=>rfl
 |j+1=>by rw [wA,aar,xG p a j];rfl
theorem Bh (w:List Int):∀j,(wG w j).length=w.length+j
 |0=>rfl
 |j+1=>by rw [wG,aar,Bh w j];rfl
theorem OM {a i:Nat} (ha:a<10000000000000) (hi:i<16):ix a i=((a+4*i:Nat):Int):=by
 unfold ix
 rw [wrap_i64 (4*(i:Int)) (by omega) (by omega),wrap_i64 _ (by omega) (by omega)]
 omega
theorem L6 {p:List Int} {a i:Nat} (ha:a<10000000000000) (hp:a+64<=p.length) (hi:i<16):oq p (ix a i) i=true:=by
 rw [OM ha hi]
 unfold oq
 rw [wrap_i64 _ (by omega) (by omega),wrap_i64 _ (by omega) (by omega),wrap_i64 _ (by omega) (by omega),ct (by omega) (by omega),ct (by omega) (by omega),ct (by omega) (by omega),ct (by omega) (by omega)]
 simp only [aC,aab,true_and,aeJ]
 omega
theorem HV {j:Nat} (hj:j<48):nxP (16+j) (16+j) (16+j)=true:=by
 unfold nxP
 rw [wrap_i64 _ (by omega) (by omega),wrap_i64 _ (by omega) (by omega),wrap_i64 _ (by omega) (by omega),wrap_i64 _ (by omega) (by omega),fZ (by omega)]
 simp only [aC,aab,true_and,aeJ]
 refine ⟨⟨⟨⟨⟨⟨⟨⟨?_,ct (by omega) (by omega)⟩,?_⟩,ct (by omega) (by omega)⟩,?_⟩,ct (by omega) (by omega)⟩,?_⟩,ct (by omega) (by omega)⟩,?_⟩<;>omega
section
variable (p kk h:List Int) {a:Nat} (ha:a<10000000000000) (hp:a+64<=p.length) (hk:kk.length=64)
include ha hp in
theorem L7:Tr prog none 0 (au 2 r3) (sA p kk h a 0 [] 0) .normal (sA p kk h a 16 (wA p a 16) 16):=by
 have key:=Tr.loop (P:=prog) (ro:=none) (k:=0) 4 (c:=au 2 r3) (by kernel_rfl) (λj:Nat=>sA p kk h a j (wA p a j) j) 16 (s':=sA p kk h a 16 (wA p a 16) 16) (λj hj=>?_) ?_
 ·exact key
 ·have k:=Rs p kk h (wA p a j) j a j
  rw [L6 ha hp hj,xG,fZ (by omega),wrap_i64 _ (by omega) (by omega)] at k
  refine Tr.post (Tr.cut (iz true true true true) 60 _ 3 (by omega) k rfl) (bE.same ?_ rfl)
  show (sA _ _ h _ _ [] _).t=(sA _ _ h _ _ [] _).t
  rw [show ((j:Int)+1)=((j+1:Nat):Int) by omega]
 ·exact Tr.post (Tr.cut (iz true false true true) 60 _ 3 (by omega) (Rt p kk h (wA p a 16) 16 a 16) rfl) (bE.same rfl rfl)
theorem L8 {w:List Int} (hw:w.length=16) (a:Int):Tr prog none 0 (au 4 r3) (sB p kk h a 16 w 16) .normal (sB p kk h a 64 (wG w 48) 64):=by
 have key:=Tr.loop (P:=prog) (ro:=none) (k:=0) 6 (c:=au 4 r3) (by kernel_rfl) (λj:Nat=>sB p kk h a (16+j) (wG w j) (16+j)) 48 (s':=sB p kk h a 64 (wG w 48) 64) (λj hj=>?_) ?_
 ·exact key
 ·have k:=Ru p kk h (wG w j) (16+j) a (16+j)
  rw [Bh,hw,HV hj,wrap_i64 _ (by omega) (by omega)] at k
  refine Tr.post (Tr.cut (iz true true true true) 60 _ 3 (by omega) k rfl) (bE.same ?_ rfl)
  show (sB _ _ h _ _ [] _).t=(sB _ _ h _ _ [] _).t
  rw [show ((16:Int)+(j:Int)+1)=16+((j+1:Nat):Int) by omega,show 16+j+1=16+(j+1) by omega]
 ·exact Tr.post (Tr.cut (iz true true false true) 60 _ 3 (by omega) (Rv p kk h (wG w 48) 64 a 64) rfl) (bE.same rfl rfl)
include hk in
theorem HW (w:List Int) (a:Int):Tr prog none 0 (au 7 r3) (sC p kk h a 64 w h 0) .normal (sC p kk h a 64 w (E3 h kk w 64) 64):=by
 have key:=Tr.loop (P:=prog) (ro:=none) (k:=0) 8 (c:=au 7 r3) (by kernel_rfl) (λj:Nat=>sC p kk h a 64 w (E3 h kk w j) j) 64 (s':=sC p kk h a 64 w (E3 h kk w 64) 64) (λj hj=>?_) ?_
 ·exact key
 ·have k:=L3 p kk h w (E3 h kk w j) 64 a j
  rw [hk,wrap_i64 _ (by omega) (by omega),show 0+(j:Int).toNat=j by omega,show (j:Int).toNat=j by omega] at k
  refine Tr.post (Tr.cut (iz true true true true) 60 _ 4 (by omega) k ?_) (bE.same ?_ rfl)
  ·simp only [aC,aab,true_and]
   exact ⟨⟨⟨⟨by omega,ct (by omega) (by omega)⟩,by omega⟩,ct (by omega) (by omega)⟩,by omega⟩
  ·show (sC _ _ h _ _ [] [] _).t=(sC _ _ h _ _ [] [] _).t
   rw [show ((j:Int)+1)=((j+1:Nat):Int) by omega]
 ·exact Tr.post (Tr.cut (iz true true true false) 60 _ 4 (by omega) (L4 p kk h w (E3 h kk w 64) 64 a 64) rfl) (bE.same rfl rfl)
theorem X8 (a:Int):bE 0 (sN p kk h a) (sA p kk h a 0 [] 0):=
 (bE.nothing (k:=0) (t:=(sN p kk h a).t) (h:=(sN p kk h a).h) (o:=true) (o':=true) 9 .u32 false true (by kernel_rfl)).trans (bE.same (by kernel_rfl) (by kernel_rfl))
include ha hp hk in
theorem Rw:Tr prog none 0 r3 (sO p kk h a) .normal (sO p kk (oA p kk h a) a):=by
 refine Tr.dr ?_
 refine aV.items (iz true true true true) 60 2 _ 2 (by omega) (LZ p kk h a) rfl (by decide) ?_
 refine aV.pre (s1:=sA p kk h a 0 [] 0) ?_ (X8 p kk h a) (by decide)
 refine aV.item 2 (by decide) (L7 p kk h ha hp) ?_
 refine aV.items (iz true true true true) 60 1 _ 3 (by omega) (L0 p kk h (wA p a 16) 16 a 16) rfl (by decide) ?_
 refine aV.item 4 (by decide) (L8 p kk h (xG p a 16) a) ?_
 refine aV.items (iz true true true true) 60 2 _ 4 (by omega) (HS p kk h (wG (wA p a 16) 48) 64 a 64) rfl (by decide) ?_
 refine aV.item 7 (by decide) (HW p kk h hk (wG (wA p a 16) 48) a) ?_
 refine aV.items (iz true true true true) 60 1 _ 4 (by omega) (HU p kk h (wG (wA p a 16) 48) (E3 h kk (wG (wA p a 16) 48) 64) 64 a 64) rfl (by decide) ?_
 exact aV.item 9 (by decide) (Tr.cut (iz true true true true) 60 _ 2 (by omega) (L5 p kk h (wG (wA p a 16) 48) (E3 h kk (wG (wA p a 16) 48) 64) 64 a) rfl) ⟨rfl,rfl⟩
theorem HX:au 2 rO= .block 3 r3:=by kernel_rfl
include ha hp hk in
theorem L9:Tr prog none 0 rO (sO p kk h a) .normal (sO p kk (oA p kk h a) (a+64:Nat)):=by
 refine Tr.dr ?_
 refine aV.items (iz true true true true) 60 2 _ 2 (by omega) (LX p kk h a) ?_ (by decide) ?_
 ·simp only [aC,aab,true_and];omega
 refine aV.item 2 (by decide) (s1:=sO p kk (oA p kk h a) a) ?_ ?_
 ·rw [HX]
  exact Tr.b8 (Tr.pre (Rw p kk h ha hp hk) (bE.same rfl rfl)) (by simp)
 ·have k:=LY p kk (oA p kk h a) a
  rw [wrap_i64 _ (by omega) (by omega)] at k
  refine aV.item 3 (by decide) (Tr.post (Tr.cut (iz true true true true) 60 _ 2 (by omega) k rfl) (bE.same ?_ rfl)) ⟨rfl,rfl⟩
  show (sO _ _ h _).t=(sO _ _ h _).t
  rw [show ((a:Int)+64)=((a+64:Nat):Int) by omega]
end
theorem Rx {p kk:List Int} (h:List Int) {N:Nat} (hp:p.length=64*N) (hk:kk.length=64) (hb:N<10000000000):Tr prog none 0 (au 8 rB) (sO p kk h 0) .normal (sO p kk (hN p kk h N) (64*N:Nat)):=by
 have key:=Tr.loop (P:=prog) (ro:=none) (k:=0) 2 (c:=au 8 rB) (by kernel_rfl) (λj:Nat=>sO p kk (hN p kk h j) (64*j:Nat)) N (s':=sO p kk (hN p kk h N) (64*N:Nat)) (λj hj=>?_) ?_
 ·exact key
 ·exact L9 p kk (hN p kk h j) (a:=64*j) (by omega) (by omega) hk
 ·exact Tr.post (Tr.cut (iz false true true true) 60 _ 2 (by omega) (Rr p kk (hN p kk h N) (64*N:Nat)) (by rw [hp];simp [aa])) (bE.same rfl rfl)
theorem Em (xs:List Int):(fJ xs).length=64*((fJ xs).length/64):=by
 have h:=(pW (len:=xs.length) (show 56<64 by omega)).1
 have hl:(fJ xs).length=xs.length+1+c9 xs.length 64 56+8:=by unfold fJ;rw [aar,g7];rfl
 rw [hl];omega
def bD (xs:List Int):List Int:=uQ (S2.DP (cG 8 (hN (fJ xs) S2.lT S2.si ((fJ xs).length/64))))
theorem Ma:S2.lT.length=64:=by kernel_rfl
theorem Mb (xs:List Int):(aE prog (rC true true true true) 60 0 8 (atoms rB) ⟨aD f79.ntmps [.ro false .u8 xs],[],true⟩).bind (St.cut [2,4,6,7,8] 2)=
  some {sO (fJ xs) S2.lT S2.si 0 with ob:=aa true (aa true (decide (xs.length<274877900000)))}:=by kernel_rfl
theorem Bi {xs:List Int} (h1:xs.length<274877900000):ai prog 79 [.ro false .u8 xs] [] (.agg [.ints .u8 32 (bD xs)]) []:=by
 have hp:=Em xs
 generalize hn:(fJ xs).length/64=N at hp
 have hb:N<10000000000:=by
  have hK:c9 xs.length 64 56<64:=Nat.mod_lt _ (by omega)
  have hl:(fJ xs).length=xs.length+1+c9 xs.length 64 56+8:=by unfold fJ;rw [aar,g7];rfl
  omega
 rw [bD,fh,hn]
 refine ai.mE (iz true true true true) 400 9 0 func79 (by simp) rfl (λs' x h=>?_) (s:=sO (fJ xs) S2.lT (hN (fJ xs) S2.lT S2.si N) (64*N:Nat)) (p:=true) (by kernel_rfl) rfl rfl rfl
 refine aV.items (iz true true true true) 60 8 _ 2 (by simp) (Mb xs) (by rw [Me h1];rfl) (by decide) ?_
 exact aV.item 8 (by decide) (Tr.pre (Rx S2.si hp Ma hb) (bE.same rfl rfl)) h
def zD:List SV->Option (SV×List Blk×Bool)
 | [.ro false .u8 xs]=>some (.agg [.ints .u8 32 (bD xs)],[],decide (xs.length<274877900000))
 |_=>none
def ku:Entry prog:=.val 79 _ func79 (by decide) rfl true 0 zD λvs v new e=>by
 unfold zD at e
 split at e
 ·simp only [No,aae,aab] at e
  obtain ⟨rfl,rfl,h1⟩:=e
  exact Bi h1
 ·cases e
end Go.Proofs.YthlnlcijnoadcaaGreatDoor.Q2
end
