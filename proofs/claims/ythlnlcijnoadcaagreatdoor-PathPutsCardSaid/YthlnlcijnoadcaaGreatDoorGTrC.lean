/- This file holds the texts TrO, TrA, TrB, TrC, a section each. No conditions beyond those in the theorems. -/
import Derived.Test.YthlnlcijnoadcaaGreatDoorGSxC
import Derived.Test.YthlnlcijnoadcaaGreatDoorRows
noncomputable section
open Go.Proofs.Tryz
open Go.IntKind (i64 u8 u64 u32)
set_option linter.all false
set_option maxRecDepth 100000
section
namespace Go.Sy
open Go
structure aj where
 used:Bool
 name:Int
 key:List Int
 sign:List Int
 par:List Int
 un:List Int
instance:Inhabited aj:=⟨⟨false,0,[],[],[],[]⟩⟩
def aj.cells (n:aj):List SV:=[.bool n.used,.int .i64 n.name,.ints .u8 32 n.key,.ints .u8 32 n.sign,.ints .u8 32 n.par,.ro false .i64 n.un]
structure aj.OK (n:aj):Prop where
 name:(Lit.int .i64 n.name).wf=true
 key:n.key.length=32/\∀z∈n.key,0<=z/\z<256
 sign:n.sign.length=32/\∀z∈n.sign,0<=z/\z<256
 par:n.par.length=32/\∀z∈n.par,0<=z/\z<256
 un:∀z∈n.un,(Lit.int .i64 z).wf=true
end Go.Sy
end
section
namespace Go.Proofs.YthlnlcijnoadcaaGreatDoor.Tr
open Go Go.Sy
def lfT (a b c:Bool):Nat->Option Bool:=λi=>if i=5 then some a else if i=10 then some b else if i=15 then some c else none
def lfC (a b c:Bool):bO:=mk (P:=prog) [] [] (lfT a b c)
theorem xK (a b c:Bool):ak prog (lfC a b c):=az _ aL.nil _ _
abbrev pM (u:Bool) (n:Int) (k s p un:List Int):SV:=.agg [.bool u,.int .i64 n,.ints .u8 32 k,.ints .u8 32 s,.ints .u8 32 p,.ro false .i64 un]
def DM (u:Bool) (n:Int) (un:List Int):Bool:=u&&decide (n>=0)&&decide (n<=255)&&((un.length:Int)==0)
theorem Mo (u:Bool) (n:Int) (k s p un:List Int):ai prog 115 [pM u n k s p un] [] (.bool (DM u n un)) []:=by
 unfold DM
 cases u with
 |false=>exact aI (xK false false false) 60 func115 (v:=.bool false) (p:=true) (by kernel_rfl) rfl rfl
 |true=>
  cases h1:decide (n>=0) with
  |false=>exact aI (xK true false false) 60 func115 (v:=.bool false) (p:=aa true (!decide (n>=0))) (by kernel_rfl) (by rw [h1];rfl) rfl
  |true=>
   cases h2:decide (n<=255) with
   |false=>exact aI (xK true true false) 60 func115 (v:=.bool false) (p:=aa (aa true (decide (n>=0))) (!decide (n<=255))) (by kernel_rfl) (by rw [h1,h2];rfl) rfl
   |true=>exact aI (xK true true true) 60 func115 (v:=.bool ((un.length:Int)==0)) (p:=aa (aa true (decide (n>=0))) (decide (n<=255))) (by kernel_rfl) (by rw [h1,h2];rfl) rfl
end Go.Proofs.YthlnlcijnoadcaaGreatDoor.Tr
end
section
namespace Go.Proofs.YthlnlcijnoadcaaGreatDoor.Tr
open Go Go.Sy
def Gz (a b c:Bool):Nat->Option Bool:=λi=>if i=5 then some a else if i=9 then some b else if i=15 then some c else none
def lvC (a b c:Bool):bO:=mk (P:=prog) [] [] (Gz a b c)
theorem xL (a b c:Bool):ak prog (lvC a b c):=az _ aL.nil _ _
def lvX (n:Int):Bool:=hD IntKind.i64 n (i64.wrap (n+1)) != 0
def aO (n:Int):Int:=bif decide (n<1)||decide (n>=64)||lvX n then 0 else i64.wrap (i64.wrap (n.tdiv 2)+1)
theorem Eu (n:Int):ai prog 91 [.int .i64 n] [] (.int .i64 (aO n)) []:=by
 unfold aO
 cases h1:decide (n<1) with
 |true=>exact aI (xL true true true) 60 func91 (v:=.int .i64 0) (p:=aa true (decide (n<1))) (by kernel_rfl) (by rw [h1];rfl) rfl
 |false=>
  cases h2:decide (n>=64) with
  |true=>exact aI (xL false true true) 60 func91 (v:=.int .i64 0) (p:=aa (aa true (!decide (n<1))) (decide (n>=64))) (by kernel_rfl) (by rw [h1,h2];rfl) rfl
  |false=>
   cases h3:lvX n with
   |true=>exact aI (xL false false true) 60 func91 (v:=.int .i64 0) (p:=aa (aa (aa true (!decide (n<1))) (!decide (n>=64))) (lvX n)) (by kernel_rfl) (by rw [h1,h2,h3];rfl) rfl
   |false=>exact aI (xL false false false) 60 func91 (v:=.int .i64 (i64.wrap (i64.wrap (n.tdiv 2)+1))) (p:=aa (aa (aa true (!decide (n<1))) (!decide (n>=64))) (!lvX n)) (by kernel_rfl) (by rw [h1,h2,h3];rfl) rfl
end Go.Proofs.YthlnlcijnoadcaaGreatDoor.Tr
end
section
namespace Go.Proofs.YthlnlcijnoadcaaGreatDoor.Tr
open Go Go.Sy
def iM:Nat->Nat->Nat
 |0,_=>0
 |f+1,x=>match x%2 with
  |1=>iM f (x/2)+1
  |_=>0
def Bp (x:Int):Int:=(iM 7 x.toNat:Nat)
def OV:List (FuncId×Func):=[(170,f170),(215,f215)]
theorem Im:aL prog OV:=aL.cons func170 (by decide) (aL.cons func215 (by decide) aL.nil)
def Yl:bO:=mk (P:=prog) [] OV
theorem Mp:ak prog Yl:=az _ Im _ _
def x6 (v:Int):Option (SV×List Blk×Bool)->Bool
 |some (.int .i64 m,_,p)=>decide (m=v)&&p
 |_=>false
theorem r8 {v:Int} {r:Option (SV×List Blk×Bool)} (h:x6 v r=true):r.map (λx=>(x.1,x.2.2))=some (.int .i64 v,true):=by
 unfold x6 at h
 split at h
 ·simp only [aac,aab] at h
  obtain ⟨rfl,rfl⟩:=h
  rfl
 ·cases h
theorem Ev:((List.range 64).all λx=>x6 (Bp x) (aG prog Yl 60 f127 [.int .i64 x] []))=true:=by kernel_rfl
theorem Io {x:Int} (h0:0<=x) (h1:x<64):ai prog 127 [.int .i64 x] [] (.int .i64 (Bp x)) []:=by
 obtain ⟨n,rfl⟩:=aaB h0
 have h:=aah.1 Ev n (aan.2 (by omega))
 exact aI Mp 60 func127 (r8 h) rfl rfl
def Ip:List SV->Option (SV×List Blk×Bool)
 | [.int .i64 x]=>some (.int .i64 (Bp x),[],decide (0<=x)&&decide (x<64))
 |_=>none
def Iq:Entry prog:=.val 127 _ func127 (by decide) rfl false 0 Ip λvs v new e=>by
 unfold Ip at e
 split at e
 ·simp only [No,aae,aac,aab] at e
  obtain ⟨rfl,rfl,h1,h2⟩:=e
  exact Io h1 h2
 ·cases e
def On:bO:=mk (P:=prog) [Iq] []
theorem qz:ak prog On:=az _ aL.nil _ _
def isT (v u:Int):Option (SV×List Blk×Bool)->Bool
 |some (.bC [.int .i64 m,.int .i64 n],_,p)=>decide (m=v)&&decide (n=u)&&p
 |_=>false
theorem CR {v u:Int} {r:Option (SV×List Blk×Bool)} (h:isT v u r=true):r.map (λx=>(x.1,x.2.2))=some (.bC [.int .i64 v,.int .i64 u],true):=by
 unfold isT at h
 split at h
 ·simp only [aac,aab] at h
  obtain ⟨⟨rfl,rfl⟩,rfl⟩:=h
  rfl
 ·cases h
def aN (x:Int):Int:=match iM 7 x.toNat with
 |0=>-1
 |k+1=>x-2^k
def aH (x:Int):Int:=match iM 7 x.toNat with
 |0=>-1
 |k+1=>x+2^k
theorem xM:((List.range 64).all λx=>isT (aN x) (aH x) (aG prog On 60 f81 [.int .i64 x] []))=true:=by kernel_rfl
theorem zH {x:Int} (h0:0<=x) (h1:x<64):ai prog 81 [.int .i64 x] [] (.bC [.int .i64 (aN x),.int .i64 (aH x)]) []:=by
 obtain ⟨n,rfl⟩:=aaB h0
 have h:=aah.1 xM n (aan.2 (by omega))
 exact aI qz 60 func81 (CR h) rfl rfl
def v5:List SV->Option (SV×List Blk×Bool)
 | [.int .i64 x]=>some (.bC [.int .i64 (aN x),.int .i64 (aH x)],[],decide (0<=x)&&decide (x<64))
 |_=>none
def gD:Entry prog:=.val 81 _ func81 (by decide) rfl false 0 v5 λvs v new e=>by
 unfold v5 at e
 split at e
 ·simp only [No,aae,aac,aab] at e
  obtain ⟨rfl,rfl,h1,h2⟩:=e
  exact zH h1 h2
 ·cases e
def sizes:List Nat:=[1,2,4,8,16,32]
def aQ (x n:Int):Bool:=sizes.any λm=>decide (n=m)&&decide (0<=x)&&decide (x<=2*m-2)
theorem eR {x n:Int} (h:aQ x n=true):∃m∈sizes,∃y:Nat,n=(m:Int)/\x=(y:Int)/\y<2*m-1:=by
 unfold aQ at h
 obtain ⟨m,hm,h⟩:=aaT.1 h
 simp only [aac,aab] at h
 obtain ⟨⟨rfl,h0⟩,h1⟩:=h
 obtain ⟨y,rfl⟩:=aaB h0
 have:1<=m:=by simp only [sizes,ad2,List.not_mem_nil,or_false] at hm;omega
 exact ⟨m,hm,y,rfl,rfl,by omega⟩
def eD (x n:Int):Int:=if x=n-1 then-1 else if (x.toNat/2^(iM 7 x.toNat+1))%2=0 then x+2^iM 7 x.toNat else x-2^iM 7 x.toNat
def er (x:Int):Int:=(x-(2^iM 7 x.toNat-1))/2
def g8 (x:Int):Int:=(x+(2^iM 7 x.toNat-1))/2
def OW:List (FuncId×Func):=[(216,f216),(171,f171),(189,f189)]
theorem Ir:aL prog OW:=aL.cons func216 (by decide) (aL.cons func171 (by decide) (aL.cons func189 (by decide) aL.nil))
def OT:bO:=mk (P:=prog) [Iq] OW
theorem lC:ak prog OT:=az _ Ir _ _
theorem Bq:(sizes.all λn=>(List.range (2*n-1)).all λx=>x6 (eD x n) (aG prog OT 60 f147 [.int .i64 x,.int .i64 n] []))=true:=by kernel_rfl
theorem Ew {x n:Int} (h:aQ x n=true):ai prog 147 [.int .i64 x,.int .i64 n] [] (.int .i64 (eD x n)) []:=by
 obtain ⟨m,hm,y,rfl,rfl,hy⟩:=eR h
 have h:=aah.1 (aah.1 Bq m hm) y (aan.2 hy)
 exact aI lC 60 func147 (r8 h) rfl rfl
def CS:List SV->Option (SV×List Blk×Bool)
 | [.int .i64 x,.int .i64 n]=>some (.int .i64 (eD x n),[],aQ x n)
 |_=>none
def r7:Entry prog:=.val 147 _ func147 (by decide) rfl false 0 CS λvs v new e=>by
 unfold CS at e
 split at e
 ·simp only [No,aae] at e
  obtain ⟨rfl,rfl,h⟩:=e
  exact Ew h
 ·cases e
theorem Ex:(sizes.all λn=>(List.range (2*n-1)).all λx=>isT (er x) (g8 x) (aG prog OT 60 f128 [.int .i64 x,.int .i64 n] []))=true:=by kernel_rfl
theorem Is {x n:Int} (h:aQ x n=true):ai prog 128 [.int .i64 x,.int .i64 n] [] (.bC [.int .i64 (er x),.int .i64 (g8 x)]) []:=by
 obtain ⟨m,hm,y,rfl,rfl,hy⟩:=eR h
 have h:=aah.1 (aah.1 Ex m hm) y (aan.2 hy)
 exact aI lC 60 func128 (CR h) rfl rfl
def It:List SV->Option (SV×List Blk×Bool)
 | [.int .i64 x,.int .i64 n]=>some (.bC [.int .i64 (er x),.int .i64 (g8 x)],[],aQ x n)
 |_=>none
def RS:Entry prog:=.val 128 _ func128 (by decide) rfl false 0 It λvs v new e=>by
 unfold It at e
 split at e
 ·simp only [No,aae] at e
  obtain ⟨rfl,rfl,h⟩:=e
  exact Is h
 ·cases e
end Go.Proofs.YthlnlcijnoadcaaGreatDoor.Tr
end
