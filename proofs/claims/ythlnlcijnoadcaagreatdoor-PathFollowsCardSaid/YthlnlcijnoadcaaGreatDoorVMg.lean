/- This file proves lemmas for the last one. Conditions: those in them. -/
import Derived.Test.YthlnlcijnoadcaaGreatDoorVS2F
noncomputable section
open Bool renaming true->Z,false->I
open Option renaming some->E,none->Y
open Decidable renaming decide->C
open List renaming length->A,getD->X,replicate->t9,range->t8
open Int renaming toNat->O
open Go.Proofs.Tryz
open Go.Proofs.Tryz renaming prog->Q
open Go.IntKind (i64)
set_option linter.all false
set_option maxRecDepth 100000
namespace Go.Proofs.YthlnlcijnoadcaaGreatDoor
namespace Kd
open Sy Sh
def pdC(a:Bool):cu:=mk [S2.wz] [] λi=>if i=10 then E a else Y
def CW a:aq Q (pdC a):=au _ aN.nil _ _
def pdM:Code:=aI f258
def pdK(a:pD):pD:=if(A a:Int)>64 then S2.cI a else a
def OQ(k:pD):pD:=CX (t9 64 0) 0 k (Nat.min (A k) 64)
def pdX(l:pD)(w:Int):pD:=(t8 64).map λi=>gJ .u8 (X l i 0) w
def mj(a:pD)(w:Int):pD:=lQ (pdX (OQ (pdK a)) w)
def KO(a:pD)(w:Int):A (mj a w)=64:=by rw[mj,bD];simp[pdX]
def pd1(a l:pD)(w:Int):St:=⟨ag 33 [(1,.int .u8 w),(6,.sl 2 0 0 1 64 64 Z Z),(20,.t6 64),(21,.t6 0)],[.b [.ro I .u8 a],.b [.t5 (S2.cI a)],.b [.af .u8 64 l]],Z⟩
def pd0(l:pD)(w:Int):St:=⟨ag 33 [(1,.int .u8 w),(6,.sl 0 0 0 1 64 64 Z Z),(20,.t6 64),(21,.t6 0)],[.b [.af .u8 64 l]],Z⟩
section
variable (key l:pD) (w:Int)
def aq7:(bh Q (pdC Z) 60 0 6 (aH pdM) ⟨aU f258.ntmps [.ro I .u8 key,.int .u8 w],[],Z⟩).bind (St.cut [1,6,20,21] 3)=
  E ⟨ag 33 [(1,.int .u8 w),(6,.sl 2 0 0 1 64 64 Z Z),(20,.t6 64),(21,.t6 0)],[.b [.ro I .u8 key],.b [.t5 (S2.cI [key].flatten)],.b [.af .u8 64 (CX (t9 64 0) 0 (S2.cI [key].flatten) (Nat.min 32 64))]],
   aa (aa (aa Z (C ((A key:Int)>64))) (aa Z (C ([key].flatten.length<274877900000)&&Z))) (aa (C (A (S2.cI [key].flatten)=32)&&Z) (Z&&C (Nat.min 32 64<=A (S2.cI [key].flatten))))⟩:=by kernel_rfl
def aq8:(bh Q (pdC I) 60 0 6 (aH pdM) ⟨aU f258.ntmps [.ro I .u8 key,.int .u8 w],[],Z⟩).bind (St.cut [1,6,20,21] 1)=
  E {pd0 (OQ key) w with ob:=aa (aa Z (!C ((A key:Int)>64))) (aa Z (Z&&C (0+Nat.min (A key) 64<=64)&&C (Nat.min (A key) 64<=A key)))}:=by kernel_rfl
end
def KP(k:pD):A (OQ k)=64:=zd (by simp) (by have h:Nat.min (A k) 64<=64:=Nat.min_le_right _ _;generalize Nat.min (A k) 64=m at*;omega) (Nat.min_le_left _ _)
theorem wD{key:pD}{w:Int}(h:A key<274877900000):ak Q 258 [.ro I .u8 key,.int .u8 w] [] (.ro Z .u8 (mj key w)) []:=by
 rw[mj,bD]
 unfold pdK
 split
 ·rename_i hk
  have hs:=S2.mo key
  have e:CX (t9 64 0) 0 (S2.cI key) (Nat.min 32 64)=OQ (S2.cI key):=by unfold OQ;rw[hs]
  have hh:=aq7 key w
  rw[show[key].flatten=key by simp,e,hs,Me hk,Me h] at hh
  have k:ak Q 258 [.ro I .u8 key,.int .u8 w] [] (.sl 2 0 0 1 64 64 Z Z) [.b [.ro I .u8 key],.b [.t5 (S2.cI key)],.b [.af .u8 64 (pdX (OQ (S2.cI key)) w)]]:=by
   refine ak.iH (CW Z) 200 6 3 func258 (by simp) rfl (λs' x hx=>?_) (s:=pd1 key (cD 64 (OQ (S2.cI key))) w) (p:=Z) ?_ rfl rfl rfl
   ·refine TrL.dM (CW Z) 60 6 _ 3 (by simp) hh rfl (by decide) ?_
    exact TrL.pre hx (bG.bR rfl (by rw[bV (KP _)];rfl)) (by decide)
   ·generalize OQ (S2.cI key)=l
    kernel_rfl
  exact ak.fz 2 0 (by simp) (by simp) k (u:=.ro Z .u8 (pdX (OQ (S2.cI key)) w)) (h2:=[]) (p:=Z) (by kernel_rfl) rfl
 ·rename_i hk
  have hh:=aq8 key w
  have h1:Nat.min (A key) 64<=64:=Nat.min_le_right _ _
  have h2:Nat.min (A key) 64<=A key:=Nat.min_le_left _ _
  have h3:0+Nat.min (A key) 64<=64:=by generalize Nat.min (A key) 64=m at*;omega
  rw[aaS hk,Me h3,Me h2] at hh
  have k:ak Q 258 [.ro I .u8 key,.int .u8 w] [] (.sl 0 0 0 1 64 64 Z Z) [.b [.af .u8 64 (pdX (OQ key) w)]]:=by
   refine ak.iH (CW I) 200 6 1 func258 (by simp) rfl (λs' x hx=>?_) (s:=pd0 (cD 64 (OQ key)) w) (p:=Z) ?_ rfl rfl rfl
   ·refine TrL.dM (CW I) 60 6 _ 1 (by simp) hh rfl (by decide) ?_
    exact TrL.pre hx (bG.bR rfl (by rw[bV (KP _)])) (by decide)
   ·generalize OQ key=l
    kernel_rfl
  exact ak.frozen k (by simp[pdX])
def pdF:List SV->Option (SV×List Blk×Bool)
 | [.ro I .u8 key,.int .u8 w]=>E (.ro Z .u8 (mj key w),[],C (A key<274877900000))
 |_=>Y
def pdE:aK Q:=.val 258 _ func258 (by decide) rfl Z 0 pdF λvs v new e=>by
 unfold pdF at e
 split at e
 ·simp only[Mf,aad,aac] at e
  have⟨rfl,rfl,h⟩:=e
  exact wD h
 ·cases e
def taC(a:Bool):cu:=mk [S2.ara,S2.EV,S2.arb,S2.wz,pdE] [] λi=>if i=17 then E a else Y
def CY(a:Bool):aq Q (taC a):=au _ aN.nil _ _
def taB:Code:=aI f228
def HK(key:pD)(a:List pD)(d:Blk)(i:Int):St:=⟨ag 31 [(0,.ro I .u8 key),(4,.r5 0),(5,.r5 1),(14,.iX I a),(15,.t6 (A a)),(16,.t6 i)],[.b [.t5 S2.cG],d],Z⟩
def afL(key:pD) xss d d'{i j:Int}(h:i=j):(HK key xss d i).t=(HK key xss d' j).t:=by subst h;rfl
def afM(key:pD) xss{d d'}(i j:Int)(h:d=d'):(HK key xss d i).h=(HK key xss d' j).h:=by subst h;rfl
section
variable (key st r:pD) (xss:List pD) (n i:Int)
def aa1:(bh Q (taC Z) 60 0 4 (aH taB) ⟨aU f228.ntmps [.ro I .u8 key,.iX I xss],[],Z⟩).bind (St.cut [0,4,5,14,15,16] 2)=
  E {HK key xss (S2.dg (S2.ld ([]++mj key 54) S2.nO S2.uZ (A ([]++mj key 54)/64)) (([]++mj key 54).drop (64*(A ([]++mj key 54)/64))) (i64.wrap (0+A (mj key 54)))) 0 with
   ob:=aa (aa Z (aa Z (C (A key<274877900000)))) (aa Z (Z&&C (A ([]:pD)+A (mj key 54)<274877900000)))}:=by kernel_rfl
def aix:(exec Q (taC Z) 60 0 (aj (aj (aJ 4 taB))) (HK key xss (S2.dg st r n) i)).bind (λr=>(r.2.cut [0,4,5,14,15,16] 2).map λq=>(r.1,q))=
  E (.normal,{HK key xss (S2.dg (S2.ld (r++X xss (O i) []) S2.nO st (A (r++xss.getD i.toNat [])/64)) ((r++X xss (O i) []).drop (64*(A (r++xss.getD i.toNat [])/64))) (i64.wrap (n+A (xss.getD i.toNat [])))) (i64.wrap (i+1)) with
   ob:=aa (aa (aa (aa Z (C (i<A xss))) (bC i (A xss))) (C (O i<A xss))) (aa Z (C (A st=8)&&C (A r+A (xss.getD i.toNat [])<274877900000)))}):=by kernel_rfl
def aiy:(exec Q (taC I) 60 0 (aj (aj (aJ 4 taB))) (HK key xss (S2.dg st r n) i)).bind (λr=>(r.2.cut [0,4,5,14,15,16] 2).map λq=>(r.1,q))=
  E (.exit 0,{HK key xss (S2.dg st r n) i with ob:=aa Z (!C (i<A xss))}):=by kernel_rfl
def aa2:((eM Q (taC Z) 60 (A ([]:List Blk)) ((aH (aI f228)).drop 5) (HK key xss (S2.dg st r n) (A xss))).bind λr=>match r.1 with
   | .ret| .normal=>(ke Q r.2.t r.2.h f228.results.toList).map λq=>(fK q.1,r.2.h.take 0,aa r.2.ob q.2)
   |_=>Y)=E (.sM (S2.cI [mj key 92,S2.qG st r n].flatten),[],
  aa (aa (aa Z (aa Z (C (A st=8)&&C (A r<274877900000)))) (aa Z (C (A key<274877900000)))) (aa Z (C ([mj key 92,S2.qG st r n].flatten.length<274877900000)&&Z))):=by kernel_rfl
end
def n7(key xs:pD):pD:=lQ (S2.cI (mj key 92++S2.cI (mj key 54++xs)))
def ze(key xs:pD):A (n7 key xs)=32:=by rw[n7,bD];exact S2.mo _
def aaw(key xs:pD):∀x∈n7 key xs,0<=x/\x<256:=by rw[n7,bD];exact S2.rT _
def aiz{key:pD}{xss}(z:A key<274877900000)(h1:A xss.flatten<274877890000)(h2:A xss<=274877906944):ak Q 228 [.ro I .u8 key,.iX I xss] [] (.sM (n7 key xss.flatten)) []:=by
 have d:=KO key 54
 have q:=KO key 92
 have hO:Tr Q Y 0 (aJ 4 taB) (HK key xss (S2.HL (mj key 54)) 0) .normal (HK key xss (S2.HL (mj key 54++xss.flatten)) (A xss)):=by
  have g:=Tr.loop (P:=Q) (ro:=Y) (k:=0) 0 (c:=aJ 4 taB) rfl (λj:Nat=>HK key xss (S2.HL (mj key 54++(xss.take j).flatten)) j) (A xss) (s':=HK key xss (S2.HL (mj key 54++xss.flatten)) (A xss)) (λj o=>?_) ?_
  ·exact Tr.pre g (bG.bR (afL _ _ _ _ rfl) (afM _ _ _ _ (by rw[List.take_zero,List.flatten_nil,acj])))
  ·generalize v:mj key 54++(xss.take j).flatten=xs
   have t:=S2.EW xss (j+1)
   rw[S2.rU o,abA] at t
   have jD:A xs=64+(xss.take j).flatten.length:=by rw[<-v,abA,d]
   have k:=aix key (S2.ld xs S2.nO S2.uZ (A xs/64)) (xs.drop (64*(A xs/64))) xss (A xs) j
   have⟨e1,e2⟩:=S2.KQ xs (X xss j [])
   rw[aaq,e1,e2,aM (_+_) (by omega) (by omega),aM _ (by omega) (by omega),Me (S2.rV S2.u7 _),Me (show A (xs.drop (64*(xs.length/64)))+A (xss.getD j [])<274877900000 by rw[afj];omega),
    Me (by omega),dB (by omega) (by omega),Me o] at k
   refine Tr.post (Tr.cut (CY Z) 60 _ 2 (by omega) k rfl) (bG.bR (afL _ _ _ _ (by omega)) (afM _ _ _ _ ?_))
   rw[S2.rU o, <-aeH,v]
   unfold S2.HL
   rw[abA,Int.natCast_add]
  ·have k:=aiy key (S2.ld (mj key 54++xss.flatten) S2.nO S2.uZ (A (mj key 54++xss.flatten)/64)) ((mj key 54++xss.flatten).drop (64*(A (mj key 54++xss.flatten)/64))) xss (A (mj key 54++xss.flatten)) (A xss)
   rw[agW]
   exact Tr.post (Tr.cut (CY I) 60 _ 2 (by omega) k (by simp[aa])) (bG.bR rfl rfl)
 have u:=aa1 key xss
 rw[List.nil_append,d,Me z] at u
 have B:S2.HL (mj key 54)=S2.dg (S2.ld (mj key 54) S2.nO S2.uZ (64/64)) ((mj key 54).drop (64*(64/64))) (i64.wrap (0+(64:Nat))):=by
  unfold S2.HL
  rw[d];rfl
 have D:=S2.KR (mj key 54++xss.flatten)
 have y:A ((mj key 54++xss.flatten).drop (64*((mj key 54++xss.flatten).length/64)))<274877900000:=by rw[afj,abA,d];omega
 have k:ak Q 228 [.ro I .u8 key,.iX I xss] [] (.sM (S2.cI [mj key 92,S2.cI (mj key 54++xss.flatten)].flatten)) []:=by
  rw[<-D]
  generalize a:S2.ld (mj key 54++xss.flatten) S2.nO S2.uZ (A (mj key 54++xss.flatten)/64)=st
  generalize f:(mj key 54++xss.flatten).drop (64*(A (mj key 54++xss.flatten)/64))=r at y
  have h8:A st=8:=by rw[<-a];exact S2.rV S2.u7 _
  have m:∀s' x,TrL Q Y 0 ((aH taB).drop 5) (HK key xss (S2.dg st r (A (mj key 54++xss.flatten))) (A xss)) x s'->TrL Q Y 0 (aH taB) ⟨aU f228.ntmps [.ro I .u8 key,.iX I xss],[],Z⟩ x s':=λs' x h=>by
   refine TrL.dM (CY Z) 60 4 _ 2 (by simp) u rfl (by decide) ?_
   rw[<-B]
   refine TrL.dV 4 (by decide) (Tr.pre hO (bG.bR rfl rfl)) ?_
   unfold S2.HL
   rw[a,f]
   exact h
  generalize (A (mj key 54++xss.flatten):Int)=n at*
  have hq:=S2.OR st r n
  have t:[mj key 92,S2.qG st r n].flatten.length<274877900000:=by
   simp only[List.flatten_cons,List.flatten_nil,abA,q,hq,List.length_nil];omega
  refine ak.iH (CY Z) 60 5 0 func228 (by simp) rfl (λs' x h=>m s' x h) (s:=HK key xss (S2.dg st r n) (A xss))
   (p:=aa (aa (aa Z (aa Z (C (A st=8)&&C (A r<274877900000)))) (aa Z (C (A key<274877900000)))) (aa Z (C ([mj key 92,S2.qG st r n].flatten.length<274877900000)&&Z))) (aa2 key st r xss n) ?_ rfl rfl
  rw[h8,Me y,Me z,Me t]
  rfl
 rw[n7,bD]
 have e:[mj key 92,S2.cI (mj key 54++xss.flatten)].flatten=mj key 92++S2.cI (mj key 54++xss.flatten):=by simp
 rw[e] at k
 exact k
def arc:List SV->Option (SV×List Blk×Bool)
 | [.ro I .u8 key,.iX I xss]=>E (.sM (n7 key xss.flatten),[],C (A key<274877900000)&&C (A xss.flatten<274877890000)&&C (A xss<=274877906944))
 |_=>Y
def azL:aK Q:=.val 228 _ func228 (by decide) rfl Z 0 arc λvs v new e=>by
 unfold arc at e
 split at e
 ·simp only[Mf,aad,No,aac] at e
  have⟨rfl,rfl,⟨a,b⟩,c⟩:=e
  exact aiz a b c
 ·cases e
end Kd
end Go.Proofs.YthlnlcijnoadcaaGreatDoor
namespace Go.Sy
def fzT(b m:Nat)(s:St):Option (St×Bool):=match St.fz b s with
 |some (a,p)=>(a.dS m).map λs2=>(s2,p)
 |none=>Y
def bG.fzT{k b m s s2}{p:Bool}(a:k<=b)(c:k<=m)(e:Go.Sy.fzT b m s=E (s2,p))(f:p=Z):bG k s s2:=by
 subst f
 unfold Go.Sy.fzT at e
 split at e
 case h_2=>cases e
 rename_i h o d
 have⟨j,g,e⟩:=aaC.1 e
 cases e
 exact(bG.freeze a d).trans (bG.dS c g)
def bG.mW{k t h}{o o':Bool} i{v v'}(hi:t[i]?=E (E v))(b:VE v v'):bG k ⟨t,h,o⟩ ⟨t.set i (E v'),h,o'⟩:=by
 refine bG.mono (by simp) (λj u a=>?_) rfl (λi c hi=>⟨c,hi,PE.refl _⟩) (λi g hi=>hi)
 rw[List.getElem?_set] at a
 split at a
 ·rename_i q
  subst q
  split at a
  ·cases a;exact⟨v,hi,b⟩
  ·cases a
 ·exact⟨u,a,VE.refl _⟩
def VE.TX(f:Bool) k:VE (.nl (.slice Y 0 0)) (.ro f k []):=λe y h=>by have a:=h;subst a;exact .inl ⟨rfl,Y,0,rfl,λ_=>rfl⟩
end Go.Sy
namespace Go.Proofs.YthlnlcijnoadcaaGreatDoor
namespace Kd
open Sy Sh
def c0:cu:=mk (P:=Q) [] []
def arf:aq Q c0:=au _ aN.nil _ _
def tgF:List SV->Option (SV×List Blk×Bool)
 | [.ro I .u8 c,.ro I .u8 a]=>E (.fn (.func 273) [] [.r5 0,.r5 1],[.b [.ro I .u8 c],.b [.ro I .u8 a]],Z)
 |_=>Y
def tgE:aK Q:=.val 238 _ func238 (by decide) rfl Z 2 tgF λvs v new e=>by
 unfold tgF at e;split at e
 ·cases e;exact qA arf 30 func238 2 (by simp) (by kernel_rfl) rfl rfl rfl
 ·cases e
def xpB:Code:=aI f186
def xpI:Code:=aj (aJ 1 xpB)
def xpR:Code:=aJ 5 xpI
def tgB:Code:=aI f273
def xpT:List (Option SV):=ag 36 [(5,.r5 0),(8,.r5 2),(21,.fn (.func 273) [] [.r5 3,.r5 4])]
def xpL(l:Nat):Lp:=IA xpR xpT l
def xpD(l:Nat):Lp:={IA xpR xpT l with st:=.done,lR:=E (.exit 0)}
def ark(sec info l:pD)(m N:Nat):List Blk:=[.b [.t6 N],.b [.af .u8 N l],.b [.sl 1 0 0 1 m N I I],.b [.ro I .u8 sec],.b [.ro I .u8 info]]
def Q0(sec info l:pD)(m N:Nat)(g:Option Lp):List Blk:=[.b [.t6 N],.b [.af .u8 N l],.b [.sl 1 0 0 1 m N I I],.b [.ro I .u8 sec],.b [.ro I .u8 info],.g g]
def tgS(sec info l:pD)(m N:Nat)(iM:pD)(i:Int)(k:Nat):St:=⟨ag 25 [(0,.fn (.yield k) [] []),(1,.r5 3),(2,.r5 4),(4,.ro Z .u8 iM),(5,.int .u8 i)],Q0 sec info l m N (E (xpL k)),Z⟩
def tgM(sec info l:pD)(m N:Nat)(iM t:pD)(i j:Int)(k:Nat):St:=⟨ag 25 [(0,.fn (.yield k) [] []),(1,.r5 3),(2,.r5 4),(4,.sl 8 0 0 1 32 32 Z Z),(5,.int .u8 j)],
 [.b [.t6 N],.b [.af .u8 N l],.b [.sl 1 0 0 1 m N I I],.b [.ro I .u8 sec],.b [.ro I .u8 info],.g (E (xpL k)),.b [.af .u8 1 [i]],.b [.ro Z .u8 iM,.ro I .u8 info,.sl 6 0 0 1 1 1 Z Z],.b [.t5 t]],Z⟩
def tgC(a:Bool):cu:=mk [azL] [] λi=>if i=34 then E a else if i=22 then E I else Y
def IB(a:Bool):aq Q (tgC a):=au _ aN.nil _ _
def OS(m N:Nat):Int:=if i64.wrap ((N:Int)-(m:Int))<32 then i64.wrap ((N:Int)-(m:Int)) else 32
def zg(m N:Nat):Nat:=O (OS m N)
def tT(sec iM info:pD)(i:Int):pD:=n7 sec [iM,info,[i]].flatten
def xpW(l t:pD)(m N:Nat):pD:=CX l (0+m) ((t.drop 0).take (zg m N)) (zg m N)
def xpA(sec iM info:pD)(i:Int):Bool:=aa Z (aa Z (C (A sec<274877900000)&&C ([iM,info,[i]].flatten.length<274877890000)&&Z))
def xpY(l t:pD)(m N k:Nat):Bool:=aa (aa (aa (C (k=k)) (C (k=k))) (aa Z (C (0<=OS m N)&&C (OS m N<=32)))) (aa (aa (C (0+zg m N<=32)&&C (0+zg m N<=A t)) (C (m+zg m N<=N))) (C (A l=N)&&C (0+m+zg m N<=N)&&C (zg m N<=A ((t.drop 0).take (zg m N)))))
section
variable (sec info l iM t:pD) (m N k:Nat) (i:Int)
def aiE:(exec Q (tgC I) 60 6 (aj (aj (aJ 2 tgB))) (tgS sec info l m N iM i k)).bind (λr=>(r.2.cut [0,1,2,4,5] 9).map λq=>(r.1,q))=
  E (.normal,{tgM sec info (xpW l (tT sec iM info i) m N) (m+zg m N) N iM (tT sec iM info i) i (IntKind.u8.wrap (i+1)) k with
   ob:=aa (aa (xpA sec iM info i) (aa (aa (xpY l (tT sec iM info i) m N k) (!((m+zg m N:Nat):Int)==(N:Int))) (C (k=k)))) (!i==255)}):=by kernel_rfl
def arn(j:Int):fzT 8 6 (tgM sec info l m N iM t i j k)=E (tgS sec info l m N t j k,aa (C (A t=32)) Z):=by kernel_rfl
def aa3:(exec Q (tgC Z) 60 6 (aj (aj (aJ 2 tgB))) (tgS sec info l m N iM i k)).bind (λr=>(r.2.cut [] 6).map λq=>(r.1,q))=
  E (.ret,⟨ag 25 [],Q0 sec info (xpW l (tT sec iM info i) m N) (m+zg m N) N (E (xpD k)),
   aa (xpA sec iM info i) (aa (aa (xpY l (tT sec iM info i) m N k) (((m+zg m N:Nat):Int)==(N:Int))) (C (k=k)))⟩):=by kernel_rfl
def aa4:(bh Q (tgC I) 60 6 2 (aH tgB) ⟨aU f273.ntmps [.fn (.yield k) [] [],.r5 3,.r5 4],Q0 sec info l m N (E (xpL k)),Z⟩).bind (St.cut [0,1,2,4,5] 6)=
  E ⟨ag 25 [(0,.fn (.yield k) [] []),(1,.r5 3),(2,.r5 4),(4,.nl (.slice Y 0 0)),(5,.int .u8 1)],Q0 sec info l m N (E (xpL k)),Z⟩:=by kernel_rfl
end
def EX(sec info:pD):Nat->pD
 |0=>[]
 |j+1=>tT sec (EX sec info j) info ((j+1:Nat):Int)
def xpC(sec info:pD):Nat->pD
 |0=>[]
 |j+1=>xpC sec info j++EX sec info (j+1)
def Eh(sec info:pD)(N j:Nat):pD:=xpC sec info j++t9 (N-32*j) 0
def dJ(sec info:pD)(N:Nat):pD:=xpC sec info ((N-1)/32)++(EX sec info ((N-1)/32+1)).take (N-32*((N-1)/32))
def tI(sec iM info:pD)(i:Int):A (tT sec iM info i)=32:=ze _ _
def CZ(sec info:pD)(j:Nat):A (EX sec info (j+1))=32:=tI _ _ _ _
def aiF(sec info:pD):∀j,A (EX sec info j)<=32
 |0=>by simp[EX]
 |j+1=>by rw[CZ];exact aar _
def yz(sec info:pD):∀j,A (xpC sec info j)=32*j
 |0=>rfl
 |j+1=>by rw[xpC,abA,yz sec info j,CZ];omega
def KS(sec info:pD){N j:Nat}(h:32*j<=N):A (Eh sec info N j)=N:=by unfold Eh;rw[abA,yz,List.length_replicate];omega
def xA(sec info:pD)(N:Nat):A (dJ sec info N)=N:=by unfold dJ;rw[abA,yz,afN,CZ];omega
def IC{m N:Nat}(h:m<=N)(hN:N<=8160):zg m N=min 32 (N-m)/\0<=OS m N/\OS m N<=32:=by unfold zg OS;rw[aM _ (by omega) (by omega)];split<;>omega
def TY{sec info:pD}{N j n:Nat}(_:32*j+n<=N)(t:pD)(b:n<=A t):CX (Eh sec info N j) (0+32*j) ((t.drop 0).take n) n=xpC sec info j++t.take n++t9 (N-32*j-n) 0:=by have a:=yz sec info j;unfold CX Eh;rw[af8,agE,List.take_left' a,aaT (by rw[afN];omega), <-afu,List.drop_left' a,List.drop_replicate]
def EY{sec info:pD}(a:A sec<274877900000)(hi:A info<270000000000)(j:Nat)(i:Int):xpA sec (EX sec info j) info i=Z:=by have h:=aiF sec info j;unfold xpA;rw[Me a,Me (by simp only[List.flatten_cons,List.flatten_nil,abA,agM,List.length_nil];omega)];rfl
def EZ{l t:pD}{m N}(d:m<=N)(hN:N<=8160)(g:A l=N)(b:A t=32) k:xpY l t m N k=Z:=by
 have⟨e,h,f⟩:=IC d hN
 have c:zg m N<=32/\m+zg m N<=N:=by rw[e];omega
 have a:A ((t.drop 0).take (zg m N))=zg m N:=by rw[agE,afN,b];omega
 unfold xpY
 rw[a,b,g,Me h,Me f,Me (show 0+zg m N<=32 by omega),Me c.2,Me (show 0+m+zg m N<=N by omega),Me (aar (zg m N))]
 simp[aa]
def aro{sec info:pD}{N}(p:A sec<274877900000)(hi:A info<270000000000)(hN:N<=8160) k:
  ak Q 273 [.fn (.yield k) [] [],.r5 3,.r5 4] (Q0 sec info (Eh sec info N 0) 0 N (E (xpL k))) (.bP []) (Q0 sec info (dJ sec info N) N N (E (xpD k))):=by
 have h:32*((N-1)/32)<=N:=by omega
 have hO:Tr Q Y 6 (aJ 2 tgB) (tgS sec info (Eh sec info N 0) 0 N [] 1 k) .ret ⟨ag 25 [],Q0 sec info (dJ sec info N) N N (E (xpD k)),Z⟩:=by
  refine Tr.rW 0 rfl ?_
  have f:=TrR.for (P:=Q) (ro:=Y) (k:=6) (b:=aj (aj (aJ 2 tgB))) (x:=.ret) (s':=⟨ag 25 [],Q0 sec info (dJ sec info N) N N (E (xpD k)),Z⟩) (by simp)
   (λj:Nat=>tgS sec info (Eh sec info N j) (32*j) N (EX sec info j) (j+1:Int) k) ((N-1)/32) (λj hj=>?_) ?_
  ·exact TrR.pre f (bG.bR rfl rfl)
  ·have hj2:32*j+32<N:=by omega
   have⟨e,_,_⟩:=IC (m:=32*j) (N:=N) (by omega) hN
   have a:zg (32*j) N=32:=by rw[e];omega
   have c:=aiE sec info (Eh sec info N j) (EX sec info j) (32*j) N k ((j+1:Nat):Int)
   have g:xpW (Eh sec info N j) (tT sec (EX sec info j) info ((j+1:Nat):Int)) (32*j) N=Eh sec info N (j+1):=by
    unfold xpW
    rw[a,TY (by omega) _ (by rw[tI];exact aar _),aaT (by rw[tI];exact aar _)]
    unfold Eh
    rw[xpC,EX,show N-32*j-32=N-32*(j+1) by omega]
   have d:(!(((32*j+32:Nat):Int)==(N:Int)))=Z:=by simp;omega
   have h2:(!(((j+1:Nat):Int)==255))=Z:=by simp;omega
   have h3:IntKind.u8.wrap (((j+1:Nat):Int)+1)=((j+1+1:Nat):Int):=by
    have:∀z:Int,IntKind.u8.wrap z=z%256:=λz=>by simp[IntKind.wrap,IntKind.signed,IntKind.bits]
    rw[this];omega
   rw[g,a,EY p hi,EZ (by omega) hN (KS _ _ (by omega)) (tI _ _ _ _),d,h2,h3,Me rfl] at c
   refine Tr.post (Tr.post (Tr.cut (IB I) 60 _ 9 (by omega) c rfl) (bG.bR rfl rfl)) ?_
   exact bG.fzT (by omega) (by omega) (arn sec info (Eh sec info N (j+1)) (EX sec info j) (tT sec (EX sec info j) info ((j+1:Nat):Int)) (32*j+32) N k ((j+1:Nat):Int) ((j+1+1:Nat):Int)) (by rw[tI];rfl)
  ·have c:=aa3 sec info (Eh sec info N ((N-1)/32)) (EX sec info ((N-1)/32)) (32*((N-1)/32)) N k (((N-1)/32+1:Nat):Int)
   have⟨e,_,_⟩:=IC h hN
   have o:zg (32*((N-1)/32)) N=N-32*((N-1)/32):=by rw[e];omega
   have g:xpW (Eh sec info N ((N-1)/32)) (tT sec (EX sec info ((N-1)/32)) info (((N-1)/32+1:Nat):Int)) (32*((N-1)/32)) N=dJ sec info N:=by
    unfold xpW
    rw[o,TY (by omega) _ (by rw[tI];omega),show N-32*((N-1)/32)-(N-32*((N-1)/32))=0 by omega,List.replicate_zero,acj]
    rfl
   have d:(((N:Nat):Int)==(N:Int))=Z:=beq_self_eq_true _
   rw[g,EY p hi,EZ h hN (KS _ _ h) (tI _ _ _ _),o,show 32*((N-1)/32)+(N-32*((N-1)/32))=N by omega,d,Me rfl] at c
   exact Tr.cut (IB Z) 60 _ 6 (by omega) c rfl
 refine ak.mk (vs:=[]) func273 rfl (x:=.ret) (s:=⟨ag 25 [],Q0 sec info (dJ sec info N) N N (E (xpD k)),Z⟩) ?_ (.inl rfl) rfl
 refine TrL.dM (IB I) 60 2 _ 6 (by show 6<=6;omega) (aa4 sec info _ 0 N k) rfl (by decide) ?_
 refine TrL.pre ?_ (bG.mW (o':=Z) 4 (v:=.nl (.slice Y 0 0)) (v':=.ro Z .u8 []) rfl (VE.TX _ _)) (by decide)
 exact TrL.jn 2 (by decide) (by simp) (Tr.pre hO (bG.bR rfl rfl))
def xhC:cu:=mk [tgE] [] λi=>if i=11||i=14 then E I else Y
def C0:aq Q xhC:=au _ aN.nil _ _
def xp1(sec info:pD)(N:Nat):St:=⟨ag 36 [(0,.ro I .u8 sec),(1,.ro I .u8 info),(5,.r5 0)],[.b [.t6 N]],Z⟩
def xp2(sec info:pD)(N:Nat):St:=⟨xpT,[.b [.t6 N],.b [.af .u8 N (t9 N 0)],.b [.sl 1 0 0 1 0 N Z I],.b [.ro I .u8 sec],.b [.ro I .u8 info]],Z⟩
def xp3(l:pD)(N:Nat):St:=⟨ag 36 [(6,.sl 1 0 0 1 N N I I),(7,.nl .nilIface)],[.b [.t6 N],.b [.af .u8 N l]],Z⟩
def aiG(N:Nat):Bool:=aa (aa Z (!C ((N:Int)>8160))) (Z&&i64.wrap (N:Int)==(N:Int)&&(Z&&C ((1:Int)*(N:Int)<=281474976710656)))
section
variable (sec info l:pD) (N:Nat)
def ars:(bh Q xhC 60 0 1 (aH xpB) ⟨aU f186.ntmps [.ro I .u8 sec,.ro I .u8 info,.t6 N],[],Z⟩).bind (St.cut [0,1,5] 1)=E (xp1 sec info N):=by kernel_rfl
def art:(bh Q xhC 60 0 5 (aH xpI) (xp1 sec info N)).bind (St.cut [5,8,21] 5)=E {xp2 sec info N with ob:=aiG N}:=by kernel_rfl
def aru:(bh Q xhC 60 0 1 ((aH xpI).drop 6) ⟨xpT,Q0 sec info l N N Y,Z⟩).bind (St.cut [6,7] 2)=E (xp3 l N):=by kernel_rfl
def arv:eM Q xhC 60 0 (((aH xpI).drop 6).drop 1) (xp3 l N)=E (.ret,xp3 l N):=by kernel_rfl
end
def aiI:xpR=.block 0 (.rangeFunc (rfG (aj xpR)) (rfP (aj xpR)) (rfA (aj xpR)) (SE (aj xpR))):=by kernel_rfl
def TZ:aJ 1 xpB=.scope xpI:=by kernel_rfl
def aa5(sec info:pD) N:bG 0 (xp2 sec info N) ⟨xpT,ark sec info (Eh sec info N 0) 0 N,Z⟩:=by
 have e:t9 N (0:Int)=Eh sec info N 0:=by simp[Eh,xpC]
 unfold xp2
 rw[e]
 refine bG.tD ⟨PE.refl _,PE.refl _,⟨rfl,?_⟩,PE.refl _,PE.refl _,trivial⟩
 rintro e v ⟨y,q,s,f,rfl⟩
 refine⟨y,q,?_,f,rfl⟩
 rcases s with h|⟨p,c,a,d,b,u,j,_,g,o⟩
 ·exact .inl h
 ·exact .inr ⟨p,c,a,d,b,u,j,(by simp),g,o⟩
def OT{N}(hN:N<=8160):aiG N=Z:=by unfold aiG;rw[aM _ (by omega) (by omega),aaS (by omega),Me (by omega),beq_self_eq_true];rfl
def BE{sec info:pD}{N:Nat}(f:A sec<274877900000)(hi:A info<270000000000)(hN:N<=8160):
  ak Q 186 [.ro I .u8 sec,.ro I .u8 info,.t6 N] [] (.bP [.ro Z .u8 (dJ sec info N),.nl .nilIface]) []:=by
 have e:=xA sec info N
 have a:Tr Q Y 0 xpR ⟨xpT,ark sec info (Eh sec info N 0) 0 N,Z⟩ .normal ⟨xpT,Q0 sec info (dJ sec info N) N N Y,Z⟩:=by
  rw[aiI]
  refine Tr.block ?_
  exact Tr.range (first:=[]) Z func273 (by decide) rfl rfl (λl=>aro f hi hN l) (λl=>⟨xpD l,by kernel_rfl,by kernel_rfl,by simp[xpD],by kernel_rfl⟩) (λl=>rfl) rfl
 have c:Tr Q Y 0 (aJ 1 xpB) (xp1 sec info N) .ret (xp3 (dJ sec info N) N):=by
  rw[TZ]
  refine Tr.scope (Tr.eX ?_) (by simp)
  refine TrL.dM C0 60 5 _ 5 (by simp) (art sec info N) (OT hN) (by decide) ?_
  refine TrL.pre ?_ (aa5 sec info N) (by decide)
  refine TrL.dV 5 (by decide) a ?_
  refine TrL.dM C0 60 1 _ 2 (by simp) (aru sec info _ N) rfl (by decide) ?_
  exact TrL.rest C0 60 (arv _ N) rfl
 have k:ak Q 186 [.ro I .u8 sec,.ro I .u8 info,.t6 N] [] (.bP [.sl 1 0 0 1 N N I I,.nl .nilIface]) [.b [.t6 N],.b [.af .u8 N (dJ sec info N)]]:=by
  refine ak.mk (vs:=[.sl 1 0 0 1 N N I I,.nl .nilIface]) func186 rfl (x:=.ret) (s:=xp3 (dJ sec info N) N) ?_ (.inl rfl) rfl
  refine TrL.dM C0 60 1 _ 1 (by simp) (ars sec info N) rfl (by decide) ?_
  exact TrL.jn 1 (by decide) (by simp) c
 have d:=ak.fz 1 0 (by simp) (by simp) k (u:=.bP [.ro Z .u8 (((dJ sec info N).drop 0).take N),.nl .nilIface]) (h2:=[]) (p:=aa (C (A (dJ sec info N)=N)) (C (0+N<=N)&&Z)) rfl (by rw[e,af8,Me rfl,Me (aar _)];rfl)
 rw[agE,aaT (by omega)] at d
 exact d
def KU:List SV->Option (SV×List Blk×Bool)
 | [.ro I .u8 sec,.ro I .u8 info,.int .i64 n]=>E (.bP [.ro Z .u8 (dJ sec info (O n)),.nl .nilIface],[],C (A sec<274877900000)&&C (A info<270000000000)&&C (0<=n)&&C (n<=8160))
 | [.ro I .u8 sec,.nl (.slice Y 0 0),.int .i64 n]=>E (.bP [.ro Z .u8 (dJ sec [] (O n)),.nl .nilIface],[],C (A sec<274877900000)&&C (0<=n)&&C (n<=8160))
 |_=>Y
def aa6:aK Q:=.val 186 _ func186 (by decide) rfl Z 0 KU λvs v new e=>by
 unfold KU at e
 split at e
 ·rename_i sec info n
  simp only[Mf,aad,No,aac] at e
  have⟨rfl,rfl,⟨⟨b,f⟩,c⟩,d⟩:=e
  have k:=BE (N:=O n) b f (by omega)
  rw[Int.toNat_of_nonneg c] at k
  exact k
 ·rename_i sec n
  simp only[Mf,aad,No,aac] at e
  have⟨rfl,rfl,⟨b,c⟩,d⟩:=e
  have k:=BE (info:=[]) (N:=O n) b (by simp) (by omega)
  rw[Int.toNat_of_nonneg c] at k
  exact ak.conv k ⟨VE.refl _,VE.TX _ _,VE.refl _,trivial⟩ trivial (VE.refl _) trivial
 ·cases e
def Be(lb ctx:pD)(n:Int):pD:=[[IntKind.u8.wrap (eF .i64 n 8),IntKind.u8.wrap n,IntKind.u8.wrap (A lb)],lb,[IntKind.u8.wrap (eF .i64 (A ctx) 24),IntKind.u8.wrap (eF .i64 (A ctx) 16),IntKind.u8.wrap (eF .i64 (A ctx) 8),IntKind.u8.wrap (A ctx)],ctx].flatten
def inC:cu:=mk [KV] []
def aiK:aq Q inC:=au _ aN.nil _ _
def T0(lb ctx:pD)(n:Int):A (Be lb ctx n)=7+A lb+A ctx:=by simp[Be];omega
def arw:List SV->Option (SV×List Blk×Bool)
 | [.str b,.ro I .u8 a,.int .i64 n]=>E (.ro Z .u8 (Be b a n),[],C (A (Be b a n)<=274877906944))
 |_=>Y
def aiL{lb ctx:pD}{n:Int}(h:A (Be lb ctx n)<=274877906944):ak Q 187 [.str lb,.ro I .u8 ctx,.t6 n] [] (.ro Z .u8 (Be lb ctx n)) []:=
 aP aiK 60 func187 (p:=aa Z (aa Z (C (A (Be lb ctx n)<=274877906944)&&Z))) (by kernel_rfl) (by rw[Me h];rfl) rfl
def azO:aK Q:=.val 187 _ func187 (by decide) rfl Z 0 arw λvs v new e=>by
 unfold arw at e
 split at e
 ·simp only[Mf,aad,aac] at e
  have⟨rfl,rfl,h⟩:=e
  exact aiL h
 ·cases e
def laC:cu:=mk [azO,aa6] [] λi=>if i=13||i=18||i=22||i=25 then E I else Y
def aiM:aq Q laC:=au _ aN.nil _ _
def yX(sec lb ctx:pD)(n:Nat):pD:=dJ sec (Be lb ctx n) n
def ID(sec lb ctx:pD) n:A (yX sec lb ctx n)=n:=xA _ _ _
def laO(sec lb ctx:pD)(n:Int):Bool:=aa (aa (aa (aa (aa (aa Z (!C ((A lb:Int)>255))) (!C ((A ctx:Int)>65536))) (!C (n<0))) (!C (n>8160))) (aa Z (C (A (Be lb ctx n)<=274877906944))))
 (aa (aa (C (A sec=32)&&Z) (C (A sec=32))) (C (A sec<274877900000)&&C (A (Be lb ctx n)<270000000000)&&C (0<=n)&&C (n<=8160)))
def T1{sec lb ctx:pD}{n:Int}(a:A sec=32)(d:A lb<=255)(c:A ctx<=65536)(b:0<=n)(h1:n<=8160):laO sec lb ctx n=Z:=by
 unfold laO;rw[T0,a,aaS (by omega),aaS (by omega),aaS (by omega),aaS (by omega),
  Me (by omega),Me (show 7+A lb+A ctx<270000000000 by omega),Me b,Me h1]
 rfl
def T4{sec lb ctx:pD}{n:Nat}(b:A sec=32)(c:A lb<=255)(a:A ctx<=65536)(h1:n<=8160):ak Q 144 [.sM sec,.str lb,.ro I .u8 ctx,.t6 n] [] (.bP [.ro Z .u8 (yX sec lb ctx n),.nl .nilIface]) []:=
 aP aiM 60 func144 (p:=laO sec lb ctx n) (by kernel_rfl) (T1 b c a (by omega) (by omega)) rfl
end Kd
namespace Q2
open Sy Sh
def E0(info:pD):pD:=info++[1]
def EE(sec info:pD):Kd.dJ sec info 32=Kd.n7 sec (E0 info):=by
 unfold Kd.dJ
 rw[show(32-1)/32=0 from rfl,show 32-32*0=32 from rfl]
 have h:Kd.EX sec info (0+1)=Kd.n7 sec (E0 info):=by
  show Kd.n7 sec [[],info,[1]].flatten=_
  congr 1
 rw[h,aaT (by rw[Kd.ze];omega)]
 rfl
def tqC:cu:=mk [mq] [] λi=>if i=16 then E I else Y
def aiN:aq Q tqC:=au _ aN.nil _ _
def tJ(key:pD)(c:Int):pD:=(t8 32).map (λi=>gJ .u8 (X key i 0) c)++t9 32 (gJ .u8 0 c)
def tqW(c b a:pD):pD:=b7 (b++b7 (c++a))
def tqO(a b c:pD):Bool:=
 aa (aa (aa (aa Z (aa Z (C (64+A c<=2^38)))) (aa (aa (C (A (a++c)=64+A c)&&(C (64+A c<=64+A c)&&Z)) (C (A (a++c)=64+A c))) (C (A (a++c)<274877900000)))) (C (A (b7 (a++c))=32)&&Z))
  (aa (aa (C (A (b++b7 (a++c))=64+32)&&Z) (C (A (b++b7 (a++c))=64+32))) (C (A (b++b7 (a++c))<274877900000)))
def je(xs:pD):A (b7 xs)=32:=by rw[b7,bD];simp[S2.E1]
def u9(key:pD)(c:Int):A (tJ key c)=64:=by simp[tJ]
def T5{a b c:pD}(d:A a=64)(e:A b=64)(f:A c<274877890000):tqO a b c=Z:=by unfold tqO;rw[abA,abA,je,d,e,Me (by omega),Me (rfl:64+A c=64+A c),Me (by omega),Me (by omega)];rfl
set_option maxHeartbeats 0 in
theorem aiO(key text:pD):(aV Q tqC 300 f184 [.ro false .u8 (cD 32 key),.ro false .u8 text] []).v3=some (.sM (tqW (tJ key 54) (tJ key 92) text),tqO (tJ key 54) (tJ key 92) text):=by kernel_rfl
def abN a b:0<=gJ .u8 a b/\gJ .u8 a b<256:=by unfold gJ vb;rw[nD];omega
def ajN key c:Kd.pdX (Kd.OQ (Kd.pdK (cD 32 key))) c=tJ (cD 32 key) c:=by kernel_rfl
def LG{key}(h:A key=32) c:Kd.mj key c=tJ key c:=by have:=ajN key c;rw[bV h] at this;rw[Kd.mj,bD,this]
def LH key c:By (tJ key c):=by intro x a;simp only[tJ,agl,ajj,List.mem_replicate] at a;rcases a with⟨i,_,rfl⟩|⟨_,rfl⟩<;>exact abN _ _
def By.app{a b}(e:By a)(d:By b):By (a++b):=λx c=>(agl.1 c).elim (e x) (d x)
def asw{b a}(h:A b=32)(c:By a)(f:A a<274877890000):tqW (tJ b 54) (tJ b 92) a=Kd.n7 b a:=by have e:By (tJ b 54++a):=(LH _ _).app c;have e1:=ju e (by rw[abA,u9];omega);have d:By (tJ b 92++S2.cI (tJ b 54++a)):=(LH _ _).app (S2.rT _);have e2:=ju d (by rw[abA,u9,S2.mo];omega);unfold tqW;rw[Kd.n7,bD,LG h,LG h,e2,e1]
def asx{l}(h:HM l=Z):By l:=λx a=>by have:=aaB.1 h x a;simpa using this
def abO{key text}(h:A key=32)(b:HM text=Z)(a:A text<274877890000):ak Q 184 [.ro I .u8 key,.ro I .u8 text] [] (.sM (Kd.n7 key text)) []:=by have k:=aP aiN 300 func184 (aiO key text) (T5 (u9 _ _) (u9 _ _) a) rfl;rw[bV h,asw h (asx b) a] at k;exact k
def age:List SV->Option (SV×List Blk×Bool)
 | [.ro I .u8 b,.ro I .u8 a]=>E (.sM (Kd.n7 b a),[],C (A b=32)&&HM a&&C (A a<274877890000))
 |_=>Y
def asy:aK Q:=.val 184 _ func184 (by decide) rfl Z 0 age λvs v new e=>by
 unfold age at e
 split at e
 ·simp only[Mf,aad,No,aac] at e
  have⟨rfl,rfl,⟨c,a⟩,b⟩:=e
  exact abO c a b
 ·cases e
def xqC:cu:=mk [asy] [] λi=>if i=13||i=17 then E I else Y
def ajO:aq Q xqC:=au _ aN.nil _ _
def xqO(sec info T:pD):Bool:=
 aa (aa (aa (aa (aa (aa Z (aa Z (C (0+0+A info<=2^38)))) (aa (aa (aa (aa (Z&&Z) (C (A info=0+0+A info)&&(C (0+0+A info<=0+0+A info)&&Z))) (C (A info=0+0+A info))) Z) (C (0+0+A info+1<=2^38))))
  (aa (aa Z (aa (C (A (E0 info)=0+0+A info+1)&&(C (0+0+A info+1<=0+0+A info+1)&&Z)) (C (A (E0 info)=0+0+A info+1)))) (C (A sec=32)&&HM (E0 info)&&C (A (E0 info)<274877890000))))
  (aa Z Z)) (aa (C (A T=32)&&Z) Z)) (aa (C (A T=0+32)&&Z) Z)
def Vx{sec info T}(b:A sec=32)(hi:HM info=Z)(e:A info<274877000000)(d:A T=32):xqO sec info T=Z:=by
 have c:A (E0 info)=A info+1:=by simp[E0]
 have a:HM (E0 info)=Z:=by
  unfold E0 HM
  rw[List.all_append]
  have h:info.all (λn=>C (0<=n)&&C (n<256))=Z:=hi
  rw[h];rfl
 unfold xqO
 rw[c,a,b,d,Me (by omega),Me (show 0+0+A info+1<=2^38 by omega),Me (by omega),Me (by omega),Me (by omega),
  Me (show 0+0+A info+1<=0+0+A info+1 by omega),Me (show A info+1<274877890000 by omega)]
 rfl
def ajP sec info:(aV Q xqC 300 f188 [.ro I .u8 sec,.ro I .u8 info,.t6 32] []).map (λx=>(x.1,x.2.1.take 5,x.2.2))=
  E (.bP [.sl 4 0 0 1 32 32 I I,.bool Z],[.b [.af .u8 (0+0+A info+1) (E0 info)],.b [.af .u8 1 [1]],.b [.t5 (Kd.n7 sec (E0 info))],.b [.t5 (Kd.n7 sec (E0 info))],.b [.t5 (Kd.n7 sec (E0 info))]],xqO sec info (Kd.n7 sec (E0 info))):=by kernel_rfl
def Jh{sec info}(hs:A sec=32)(hi:HM info=Z)(g:A info<274877000000):ak Q 188 [.ro I .u8 sec,.ro I .u8 info,.t6 32] [] (.bP [.ro Z .u8 (Kd.dJ sec info 32),.bool Z]) []:=by have a:=Kd.ze sec (E0 info);have f:=Vx hs hi g a;have d:=ajP sec info;rw[EE];generalize Kd.n7 sec (E0 info)=T at a f d;have k:=qA ajO 300 func188 5 (by simp) d f rfl rfl;have k2:ak Q 188 [.ro I .u8 sec,.ro I .u8 info,.t6 32] [] (.bP [.sl 0 0 0 1 32 32 I I,.bool Z]) [.b [.t5 T]]:=ak.yY [4] k rfl;have c:=ak.fz 0 0 (by simp) (by simp) k2 (u:=.bP [.ro Z .u8 ((T.drop 0).take 32),.bool Z]) (h2:=[]) (p:=aa (C (A T=32)) (C (0+32<=32)&&Z)) rfl (by rw[a];rfl);rw[agE,aaT (by omega)] at c;exact c
def FU:List SV->Option (SV×List Blk×Bool)
 | [.ro I .u8 b,.ro I .u8 a,.int .i64 n]=>E (.bP [.ro Z .u8 (Kd.dJ b a 32),.bool Z],[],C (n=32)&&C (A b=32)&&HM a&&C (A a<274877000000))
 |_=>Y
def Vy:aK Q:=.val 188 _ func188 (by decide) rfl Z 0 FU λvs v new e=>by
 unfold FU at e
 split at e
 ·simp only[Mf,aad,No,aac] at e
  obtain⟨rfl,rfl,⟨⟨rfl,b⟩,a⟩,h3⟩:=e
  exact Jh b a h3
 ·cases e
end Q2
namespace Fe
open Sy
def Ji:aq Q (mk [asz,afR,ajQ,jK] []):=au _ aN.nil _ _
def KX(a:pD):pD:=Ae a e2
def FV:List SV->Option (SV×List Blk×Bool)
 | [.agg [.af .u64 5 a]]=>E (.agg [.af .u64 5 (KX a)],[],Z)
 |_=>Y
def aiU:aK Q:=.val 194 _ func194 (by decide) rfl I 0 FV λvs v new e=>by
 unfold FV at e;split at e
 ·cases e;exact aP Ji 60 func194 (by kernel_rfl) rfl rfl
 ·cases e
def Pm:Int:=57896044618658097711785492504343953926634992332820282019728792003956564819949
def oA:Pm=57896044618658097711785492504343953926634992332820282019728792003956564819949:=rfl
def kg:0<Pm:=by rw[oA];omega
def v5(a b c d e:Int):Int:=a+2251799813685248*b+5070602400912917605986812821504*c+11417981541647679048466287755595961091061972992*d+25711008708143844408671393477458601640355247900524685364822016*e
def lW(w:pD):Int:=v5 (X w 0 0) (X w 1 0) (X w 2 0) (X w 3 0) (X w 4 0)
def fv(w:pD):Int:=lW w%Pm
structure Bd(w:pD):Prop where
 len:w.length=5
 b0:0<=w.getD 0 0/\w.getD 0 0<2251799813685248
 b1:0<=w.getD 1 0/\w.getD 1 0<2251799813685248
 b2:0<=w.getD 2 0/\w.getD 2 0<2251799813685248
 b3:0<=w.getD 3 0/\w.getD 3 0<2251799813685248
 b4:0<=w.getD 4 0/\w.getD 4 0<2251799813685248
def Bd.cD{w}(h:Bd w):cD 5 w=w:=bV h.len
def FW{a b c d e}(t:0<=a/\a<9223372036854775808)(v:0<=b/\b<9223372036854775808)(u:0<=c/\c<9223372036854775808)(s:0<=d/\d<9223372036854775808)(w:0<=e/\e<9223372036854775808):
  ∃q f i h r3 g,FX [a,b,c,d,e]=[f,i,h,r3,g]/\0<=q/\2251799813685248*q<=e+4097/\v5 f i h r3 g=v5 a b c d e-q*Pm/\0<=f/\f=a%2251799813685248+19*q/\(a<2251799813685248->b<2251799813685248->c<2251799813685248->d<2251799813685248->e<2251799813685248->q=0)/\
   (0<=i/\i<2251799813685248)/\(0<=h/\h<2251799813685248)/\(0<=r3/\r3<2251799813685248)/\(0<=g/\g<2251799813685248):=by
 have c0:cw0 [a,b,c,d,e]=a:=by simp only[cw0,jU,cL,af2];omega
 have c1:cw1 [a,b,c,d,e]=b+a/2251799813685248:=by simp only[cw1,jU,iN,cL,c0,oB,af2,agk];omega
 have c2:cw2 [a,b,c,d,e]=c+(b+a/2251799813685248)/2251799813685248:=by simp only[cw2,jU,iN,cL,c1,oB,af2,agk];omega
 generalize o:a/2251799813685248=q0 at*
 generalize m:(b+q0)/2251799813685248=q1 at*
 have j:cw3 [a,b,c,d,e]=d+(c+q1)/2251799813685248:=by simp only[cw3,jU,iN,cL,c2,oB,af2,agk];omega
 generalize r:(c+q1)/2251799813685248=q2 at*
 have n:cw4 [a,b,c,d,e]=e+(d+q2)/2251799813685248:=by simp only[cw4,jU,iN,cL,j,oB,af2,agk];omega
 generalize k:(d+q2)/2251799813685248=q3 at*
 have p:FX [a,b,c,d,e]=[a%2251799813685248+19*((e+q3)/2251799813685248),(b+q0)%2251799813685248,(c+q1)%2251799813685248,(d+q2)%2251799813685248,(e+q3)%2251799813685248]:=by
  unfold FX
  rw[c0,c1,c2,j,n]
  simp only[jU,iN,gG,oB]
  rw[ku _ (by omega) (by omega),ku _ (by omega) (by omega),ku _ (by omega) (by omega),ku _ (by omega) (by omega),ku _ (by omega) (by omega),cL,cL]
  congr 1
  omega
 refine⟨(e+q3)/2251799813685248,_,_,_,_,_,p,by omega,by omega,?_,by omega,rfl,λ_ _ _ _ _=>by omega,by omega,by omega,by omega,by omega⟩
 unfold v5
 rw[oA]
 generalize l:(e+q3)/2251799813685248=q4 at*
 omega
def yF{l}(h:∀i,i<5->0<=X l i 0/\X l i 0<9223372036854775808):Bd (lX l)/\∃q,lW (lX l)=lW l-q*Pm:=by
 have N:cD 5 l=[X l 0 0,X l 1 0,X l 2 0,X l 3 0,X l 4 0]:=rfl
 have⟨q,g,R,G,r3,F,e1,U,Q,w,T,S,_,B,o,v,p⟩:=FW (h 0 (by omega)) (h 1 (by omega)) (h 2 (by omega)) (h 3 (by omega)) (h 4 (by omega))
 have s:=h 4 (by omega)
 have⟨t,j,L,y,H,r,e2,m,D,P,f,n,x,z,J,K,k⟩:=FW (a:=g) (b:=R) (c:=G) (d:=r3) (e:=F) (by omega) (by omega) (by omega) (by omega) (by omega)
 have u:lX l=[j,L,y,H,r]:=by rw[lX,bD,N,e1,e2]
 rw[u]
 refine⟨⟨rfl,⟨f,by
  simp only[af2]
  by_cases M:g<2251799813685248
  ·have:=x M B.2 o.2 v.2 p.2;omega
  ·omega⟩,z,J,K,k⟩,q+t,?_⟩
 unfold lW
 simp only[af2,agk]
 rw[P,w,Int.add_mul]
 omega
def nT{x y q}(h:x=y-q*Pm):x%Pm=y%Pm:=by subst h;rw[show y-q*Pm=y+Pm*(-q) by rw[Int.mul_neg,Int.mul_comm q Pm];omega,Int.add_mul_emod_self_left]
def Bd.z5:Bd z5:=⟨rfl,by decide,by decide,by decide,by decide,by decide⟩
def abm{a b}(h:Bd a)(g:Bd b):Bd (j0 a b)/\fv (j0 a b)=(fv a+fv b)%Pm:=by
 have⟨_,r,n,p,z,o⟩:=h
 have⟨_,j,m,u,v,k⟩:=g
 have c:∀x y,0<=x->x<4503599627370496->0<=y->y<4503599627370496->jU (x+y)=x+y:=λx y f d t s=>by
  simp only[jU,cL];omega
 have e:abP a b=[X a 0 0+X b 0 0,X a 1 0+X b 1 0,X a 2 0+X b 2 0,X a 3 0+X b 3 0,X a 4 0+X b 4 0]:=by
  unfold abP
  rw[c _ _ (by omega) (by omega) (by omega) (by omega),c _ _ (by omega) (by omega) (by omega) (by omega),c _ _ (by omega) (by omega) (by omega) (by omega),c _ _ (by omega) (by omega) (by omega) (by omega),c _ _ (by omega) (by omega) (by omega) (by omega)]
 have⟨f,q,d⟩:=yF (l:=abP a b) (λi w=>by
  rw[e]
  have:i=0\/i=1\/i=2\/i=3\/i=4:=by omega
  rcases this with rfl|rfl|rfl|rfl|rfl<;>simp only[af2,agk]<;>omega)
 refine⟨f,?_⟩
 unfold j0 fv
 rw[nT d, <-Int.add_emod]
 congr 1
 rw[e]
 unfold lW v5
 simp only[af2,agk]
 omega
def abn{a b}(g:Bd a)(h:Bd b):Bd (j4 a b)/\fv (j4 a b)=(fv a-fv b)%Pm:=by
 have⟨_,z,v,w,D,n⟩:=g
 have⟨_,u,m,p,r,j⟩:=h
 have c:∀x y k,0<=x->x<4503599627370496->0<=y->y<=k->k<18014398509481984->jU (x+jU (k-y))=x+(k-y):=λx y k f d s o B=>by
  simp only[jU,cL];omega
 have e:Vz a b=[X a 0 0+(9007199254740916-X b 0 0),X a 1 0+(9007199254740988-X b 1 0),X a 2 0+(9007199254740988-X b 2 0),X a 3 0+(9007199254740988-X b 3 0),X a 4 0+(9007199254740988-X b 4 0)]:=by
  unfold Vz
  rw[c _ _ _ (by omega) (by omega) (by omega) (by omega) (by omega),c _ _ _ (by omega) (by omega) (by omega) (by omega) (by omega),c _ _ _ (by omega) (by omega) (by omega) (by omega) (by omega),c _ _ _ (by omega) (by omega) (by omega) (by omega) (by omega),c _ _ _ (by omega) (by omega) (by omega) (by omega) (by omega)]
 have⟨f,q,d⟩:=yF (l:=Vz a b) (λi t=>by
  rw[e]
  have:i=0\/i=1\/i=2\/i=3\/i=4:=by omega
  rcases this with rfl|rfl|rfl|rfl|rfl<;>simp only[af2,agk]<;>omega)
 refine⟨f,?_⟩
 unfold j4 fv
 rw[nT d, <-Int.sub_emod]
 have:lW (Vz a b)=(lW a-lW b)-(-4)*Pm:=by
  rw[e,oA]
  unfold lW v5
  simp only[af2,agk]
  omega
 exact nT this
def W2(s:Int×Int):Int:=18446744073709551616*s.1+s.2
def Af{s x y}(h1:0<=s.1/\s.1<1125899906842624)(h2:0<=s.2/\s.2<18446744073709551616)(b:0<=x/\x<4503599627370496)(a:0<=y/\y<144115188075855872):
  W2 (pl s x y)=W2 s+x*y/\0<=(pl s x y).1/\(0<=(pl s x y).2/\(pl s x y).2<18446744073709551616):=by have⟨j,i,k,d,h⟩:=FY b.1 (by omega) a.1 (by omega);have f:=jv b.1 (show x<=4503599627370495 by omega) a.1 (show y<=144115188075855871 by omega);have⟨e1,e2⟩:=DB h2.1 d (Int.le_refl 0);unfold pl W2;simp only[e1,e2,jU,cL];generalize Ag x y=H at*;generalize mulL x y=L at*;generalize x*y=Q at*;have⟨e,g⟩:=s;simp only at h1 h2 ⊢;refine⟨?_,?_,?_⟩<;>omega
def VA{b}(d:Bd b) k i(g:k<5)(hi:i<5):(0<=yB b k i/\yB b k i<144115188075855872)/\yB b k i=if i<=k then X b (k-i) 0 else 19*X b (k+5-i) 0:=by
 have a:∀j,j<5->0<=X b j 0/\X b j 0<4503599627370496:=λj m=>by
  have⟨_,e,h,l,n,f⟩:=d
  have:j=0\/j=1\/j=2\/j=3\/j=4:=by omega
  rcases this with rfl|rfl|rfl|rfl|rfl<;>omega
 unfold yB
 split
 ·have:=a (k-i) (by omega)
  exact⟨by omega,rfl⟩
 ·have:=a (k+5-i) (by omega)
  have c:X b (k+5-i) 0*19%18446744073709551616=X b (k+5-i) 0*19:=ahG (by omega) (by omega)
  simp only[jU,cL]
  rw[c]
  exact⟨by omega,by omega⟩
def Ah{a b}(p:Bd a)(r:Bd b) k(q:k<5):(0<=(sK a b k).1/\(sK a b k).1<562949953421312)/\(0<=(sK a b k).2/\(sK a b k).2<18446744073709551616)/\
  W2 (sK a b k)=X a 0 0*yB b k 0+X a 1 0*yB b k 1+X a 2 0*yB b k 2+X a 3 0*yB b k 3+X a 4 0*yB b k 4:=by
 have c:∀j,j<5->0<=X a j 0/\X a j 0<4503599627370496:=λj d=>by
  have⟨_,J,B,F,G,z⟩:=p
  have:j=0\/j=1\/j=2\/j=3\/j=4:=by omega
  rcases this with rfl|rfl|rfl|rfl|rfl<;>omega
 have e:=λj d=>(VA r k j q d).1
 have g:∀j,j<5->0<=X a j 0*yB b k j/\X a j 0*yB b k j<=4503599627370495*144115188075855871:=λj d=>
  jv (c j d).1 (by have:=(c j d).2;omega) (e j d).1 (by have:=(e j d).2;omega)
 unfold sK
 simp only[List.foldl_cons,List.foldl_nil]
 have y:=g 0 (by omega)
 have H:=g 1 (by omega)
 have D:=g 2 (by omega)
 have P:=g 3 (by omega)
 have K:=g 4 (by omega)
 have⟨f,M,l0⟩:=Af (s:=(0,0)) (by omega) (by omega) (c 0 (by omega)) (e 0 (by omega))
 generalize pl (0,0) (X a 0 0) (yB b k 0)=h at*
 have w0:W2 (0,0)=0:=rfl
 have⟨e1,Q,v⟩:=Af (by unfold W2 at f w0;omega) l0 (c 1 (by omega)) (e 1 (by omega))
 generalize pl h (X a 1 0) (yB b k 1)=n at*
 have⟨e2,N,o⟩:=Af (by unfold W2 at f e1 w0;omega) v (c 2 (by omega)) (e 2 (by omega))
 generalize pl n (X a 2 0) (yB b k 2)=l at*
 have⟨i,L,x⟩:=Af (by unfold W2 at f e1 e2 w0;omega) o (c 3 (by omega)) (e 3 (by omega))
 generalize pl l (X a 3 0) (yB b k 3)=m at*
 have⟨u,t,w⟩:=Af (by unfold W2 at f e1 e2 i w0;omega) x (c 4 (by omega)) (e 4 (by omega))
 generalize pl m (X a 4 0) (yB b k 4)=s4 at*
 refine⟨⟨t,by unfold W2 at f e1 e2 i u w0;omega⟩,w,by omega⟩
def rm k a b:qn k a b=qn k b a:=by unfold qn vb;simp only[BitVec.or_comm]
def Ai{s c}(h1:0<=s.1/\s.1<562949953421312)(h2:0<=s.2/\s.2<18446744073709551616)(f:0<=c/\c<9223372036854775808):
  nx s c=(W2 s+c)/2251799813685248/\(0<=nx s c/\nx s c<9223372036854775808)/\gG (kU s.2 c 0)=(W2 s+c)%2251799813685248:=by
 have⟨e1,e2⟩:=DB h2.1 f.1 (Int.le_refl 0)
 have d:nx s c=(W2 s+c)/2251799813685248:=by
  unfold nx
  rw[e1,e2]
  simp only[jU,cL,iN,oB]
  have e:(s.1+(s.2+c+0)/18446744073709551616)%18446744073709551616=s.1+(s.2+c)/18446744073709551616:=by omega
  rw[e,Aj _ _ (by decide)]
  have b:(s.1+(s.2+c)/18446744073709551616)*2^13%18446744073709551616=(s.1+(s.2+c)/18446744073709551616)*8192:=by omega
  rw[b]
  have a:qn .u64 ((s.2+c+0)%18446744073709551616/2251799813685248) ((s.1+(s.2+c)/18446744073709551616)*8192)=(s.1+(s.2+c)/18446744073709551616)*8192+(s.2+c+0)%18446744073709551616/2251799813685248:=by
   rw[rm]
   exact PG 13 _ _ (by omega) (by omega) (by omega) (by omega) (by omega) (by decide)
  rw[a]
  unfold W2
  omega
 refine⟨d,?_,?_⟩
 ·rw[d];unfold W2;omega
 ·rw[e1]
  simp only[gG]
  rw[ku _ (by omega) (by omega)]
  unfold W2
  omega
theorem VB{a s1 d e b}(p:(0<=a.1/\a.1<562949953421312)/\(0<=a.2/\a.2<18446744073709551616))(h1:(0<=s1.1/\s1.1<562949953421312)/\(0<=s1.2/\s1.2<18446744073709551616))
  (h2:(0<=d.1/\d.1<562949953421312)/\(0<=d.2/\d.2<18446744073709551616))(o:(0<=e.1/\e.1<562949953421312)/\(0<=e.2/\e.2<18446744073709551616))(n:(0<=b.1/\b.1<562949953421312)/\(0<=b.2/\b.2<18446744073709551616)):
  (∀i,i<5->0<=(nE a s1 d e b).getD i 0/\(nE a s1 d e b).getD i 0<9223372036854775808)/\∃q,lW (nE a s1 d e b)=v5 (W2 a) (W2 s1) (W2 d) (W2 e) (W2 b)-q*Pm:=by
 obtain⟨n1,w,o0⟩:=Ai (c:=0) p.1 p.2 (by omega)
 generalize F:nx a 0=c1 at*
 obtain⟨n2,B,o1⟩:=Ai h1.1 h1.2 w
 generalize R:nx s1 c1=c2 at*
 obtain⟨n3,D,P⟩:=Ai h2.1 h2.2 B
 generalize g:nx d c2=c3 at*
 obtain⟨n4,u,o3⟩:=Ai o.1 o.2 D
 generalize k:nx e c3=c4 at*
 obtain⟨n5,z,U⟩:=Ai (c:=c4) n.1 n.2 u
 generalize h:nx b c4=f at*
 have l:nE a s1 d e b=[gG (kU (gG (kU a.2 0 0)) (mulL f 19) 0),jU (gG (kU s1.2 c1 0)+qn .u64 (jz .u64 (jU (Ag f 19+DC (gG (kU a.2 0 0)) (mulL f 19) 0)) 13) (iN (kU (gG (kU a.2 0 0)) (mulL f 19) 0))),
   gG (kU d.2 c2 0),gG (kU e.2 c3 0),gG (kU b.2 c4 0)]:=by
  unfold nE
  rw[F,R,g,k,h]
 rw[o0,o1,P,o3,U] at l
 obtain⟨m1,_,_,s,m5⟩:=FY z.1 (show f<18446744073709551616 by omega) (y:=19) (by omega) (by omega)
 generalize Ag f 19=H at*
 generalize mulL f 19=L at*
 generalize G:(W2 a+0)%2251799813685248=O0 at*
 have j:0<=O0/\O0<2251799813685248:=by omega
 generalize t:(W2 s1+c1)%2251799813685248=O1 at*
 have ab:0<=O1/\O1<2251799813685248:=by omega
 generalize S:(W2 d+c2)%2251799813685248=O2 at*
 have v:0<=O2/\O2<2251799813685248:=by omega
 generalize al:(W2 e+c3)%2251799813685248=O3 at*
 have ad:0<=O3/\O3<2251799813685248:=by omega
 generalize ae:(W2 b+c4)%2251799813685248=O4 at*
 have Q:0<=O4/\O4<2251799813685248:=by omega
 obtain⟨e1,e2⟩:=DB (x:=O0) (y:=L) (c:=0) j.1 s (Int.le_refl 0)
 rw[e1,e2] at l
 have K:∃T r,T=(O0+19*f)/2251799813685248/\r=(O0+19*f)%2251799813685248/\nE a s1 d e b=[r,O1+T,O2,O3,O4]/\0<=T/\T<1125899906842624:=by
  refine⟨_,_,rfl,rfl,?_,by omega,by omega⟩
  rw[l]
  have W:(O0+L+0)%18446744073709551616=(O0+L)%18446744073709551616:=by omega
  have x2:(O0+L+0)/18446744073709551616=(O0+L)/18446744073709551616:=by omega
  rw[W,x2]
  generalize hX:(O0+L)%18446744073709551616=X at*
  generalize hC:(O0+L)/18446744073709551616=C at*
  have af:18446744073709551616*(H+C)+X=O0+19*f:=by omega
  have m:0<=X/\X<18446744073709551616:=by omega
  have ac:0<=H+C/\H+C<1024:=by omega
  simp only[jU,cL,gG,iN,oB]
  rw[ku X m.1 m.2]
  have N:(H+C)%18446744073709551616=H+C:=by omega
  rw[N,Aj _ _ (by decide)]
  have y2:(H+C)*2^13%18446744073709551616=(H+C)*8192:=by omega
  rw[y2,PG 13 _ _ (by omega) (by omega) (by omega) (by omega) (by omega) (by decide)]
  have V:X%2251799813685248=(O0+19*f)%2251799813685248:=by omega
  have J:(O1+((H+C)*8192+X/2251799813685248))%18446744073709551616=O1+(O0+19*f)/2251799813685248:=by omega
  rw[V,J]
 obtain⟨T,r,eT,er,hl,bT,M⟩:=K
 rw[hl]
 refine⟨λi hi=>?_,f,?_⟩
 ·have:i=0\/i=1\/i=2\/i=3\/i=4:=by omega
  rcases this with rfl|rfl|rfl|rfl|rfl<;>simp only[af2,agk]<;>omega
 ·unfold lW v5
  simp only[af2,agk]
  rw[oA]
  omega
def aAy a0 a1 a2 a3 a4 b0 b1 b2 b3 b4:
  v5 (a0*b0+a1*(19*b4)+a2*(19*b3)+a3*(19*b2)+a4*(19*b1)) (a0*b1+a1*b0+a2*(19*b4)+a3*(19*b3)+a4*(19*b2)) (a0*b2+a1*b1+a2*b0+a3*(19*b4)+a4*(19*b3))
   (a0*b3+a1*b2+a2*b1+a3*b0+a4*(19*b4)) (a0*b4+a1*b3+a2*b2+a3*b1+a4*b0)=
  v5 a0 a1 a2 a3 a4*v5 b0 b1 b2 b3 b4-v5 (a1*b4+a2*b3+a3*b2+a4*b1) (a2*b4+a3*b3+a4*b2) (a3*b4+a4*b3) (a4*b4) 0*Pm:=by unfold v5;rw[oA];grind
def C5{a b}(e:Bd a)(d:Bd b):Bd (jZ (cD 5 a) (cD 5 b))/\fv (jZ (cD 5 a) (cD 5 b))=(fv a*fv b)%Pm:=by
 rw[e.cD,d.cD]
 have⟨g,z,f⟩:=Ah e d 0 (by omega)
 have⟨s,m,t⟩:=Ah e d 1 (by omega)
 have⟨h,l,u⟩:=Ah e d 2 (by omega)
 have⟨B,x,o⟩:=Ah e d 3 (by omega)
 have⟨v,y,n⟩:=Ah e d 4 (by omega)
 have⟨t1,q,t2⟩:=VB ⟨g,z⟩ ⟨s,m⟩ ⟨h,l⟩ ⟨B,x⟩ ⟨v,y⟩
 have⟨w,F,j⟩:=yF t1
 have D:jZ a b=lX (nE (sK a b 0) (sK a b 1) (sK a b 2) (sK a b 3) (sK a b 4)):=by rw[jZ,bD]
 rw[D]
 refine⟨w,?_⟩
 unfold fv
 rw[nT j,nT t2, <-Int.mul_emod]
 rw[f,t,u,o,n]
 have c:=λk i p r=>(VA d k i p r).2
 rw[c 0 0 (by omega) (by omega),c 0 1 (by omega) (by omega),c 0 2 (by omega) (by omega),c 0 3 (by omega) (by omega),c 0 4 (by omega) (by omega),c 1 0 (by omega) (by omega),c 1 1 (by omega) (by omega),c 1 2 (by omega) (by omega),c 1 3 (by omega) (by omega),c 1 4 (by omega) (by omega),
  c 2 0 (by omega) (by omega),c 2 1 (by omega) (by omega),c 2 2 (by omega) (by omega),c 2 3 (by omega) (by omega),c 2 4 (by omega) (by omega),c 3 0 (by omega) (by omega),c 3 1 (by omega) (by omega),c 3 2 (by omega) (by omega),c 3 3 (by omega) (by omega),c 3 4 (by omega) (by omega),
  c 4 0 (by omega) (by omega),c 4 1 (by omega) (by omega),c 4 2 (by omega) (by omega),c 4 3 (by omega) (by omega),c 4 4 (by omega) (by omega)]
 simp only[Nat.reduceLeDiff,aar,akk,if_false,Nat.reduceSub,Nat.reduceAdd,aaH,Nat.sub_zero,Nat.sub_self]
 exact nT (aAy _ _ _ _ _ _ _ _ _ _)
def dD:pD->Int
 | []=>0
 |x::l=>x+256*dD l
def kE:∀{l},l.all u8=Z->0<=dD l
 | [],_=>by simp[dD]
 |x::l,h=>by simp only[List.all_cons,No,wm] at h;have:=kE h.2;simp only[dD];omega
def BV:∀{l},l.all u8=Z->dD l<256^A l
 | [],_=>by simp[dD]
 |x::l,h=>by simp only[List.all_cons,No,wm] at h;have:=BV h.2;rw[agM,Int.pow_succ];simp only[dD];omega
def pM:Nat->Int->pD
 |0,_=>[]
 |n+1,v=>v%256::pM n (v/256)
def xR:∀n(v:Int),A (pM n v)=n
 |0,_=>rfl
 |n+1,v=>by rw[pM,agM,xR n]
def LI:∀n(v:Int),(pM n v).all u8=Z
 |0,_=>rfl
 |n+1,v=>by rw[pM,List.all_cons,LI n,Bool.and_true,wm];omega
def zk:∀l,l.all u8=Z->l=pM (A l) (dD l)
 | [],_=>rfl
 |x::l,h=>by
  simp only[List.all_cons,No,wm] at h;have e1:(x+256*dD l)%256=x:=by omega
  have e2:(x+256*dD l)/256=dD l:=by omega
  rw[agM,dD,pM,e1,e2, <-zk l h.2]
def wI:∀n i(v:Int),i<n->X (pM n v) i 0=v/256^i%256
 |0,i,v,h=>by omega
 |n+1,0,v,_=>by simp[pM]
 |n+1,i+1,v,h=>by rw[pM,agk,wI n i _ (by omega),ajn (by omega),Int.pow_succ,Int.mul_comm]
def BX:∀n(v:Int),(t8 n).map (λi=>v/256^i%256)=pM n v:=by intro n;induction n with
 |zero=>intro v;rfl
 |succ n b=>
  intro v
  rw[List.range_succ_eq_map,agr,List.map_map,pM, <-b]
  congr 1
  ·simp
  ·apply aiw
   intro i _
   show v/256^(i+1)%256=v/256/256^i%256
   rw[ajn (by omega),Int.pow_succ,Int.mul_comm]
theorem Ak{w}(h:Bd w):Al w=pM 32 (lW w):=by
 have⟨_,r,t,u,v,s⟩:=h
 unfold Al lW v5
 generalize X w 0 0=a at*
 generalize X w 1 0=b at*
 generalize X w 2 0=c at*
 generalize X w 3 0=d at*
 generalize X w 4 0=e at*
 have l:qn .u64 a (jz .u64 b 51)=a+b*2251799813685248%18446744073709551616:=by
  rw[rm,Aj _ _ (by decide),PG 51 _ _ (by omega) (by omega) (by omega) (by omega) (by omega) (by decide)];omega
 have k:qn .u64 (eF .u64 b 13) (jz .u64 c 38)=b/8192+c*274877906944%18446744073709551616:=by
  rw[rm,Aj _ _ (by decide),mw _ _ _ (by decide),PG 38 _ _ (by omega) (by omega) (by omega) (by omega) (by omega) (by decide)];omega
 have j:qn .u64 (eF .u64 c 26) (jz .u64 d 25)=c/67108864+d*33554432%18446744073709551616:=by
  rw[rm,Aj _ _ (by decide),mw _ _ _ (by decide),PG 25 _ _ (by omega) (by omega) (by omega) (by omega) (by omega) (by decide)];omega
 have n:qn .u64 (eF .u64 d 39) (jz .u64 e 12)=d/549755813888+e*4096%18446744073709551616:=by
  rw[rm,Aj _ _ (by decide),mw _ _ _ (by decide),PG 12 _ _ (by omega) (by omega) (by omega) (by omega) (by omega) (by decide)];omega
 rw[l,k,j,n, <-BX]
 generalize p:a+2251799813685248*b+5070602400912917605986812821504*c+11417981541647679048466287755595961091061972992*d+25711008708143844408671393477458601640355247900524685364822016*e=V
 have o:a+b*2251799813685248%18446744073709551616=V%18446744073709551616:=by omega
 have g:b/8192+c*274877906944%18446744073709551616=V/18446744073709551616%18446744073709551616:=by omega
 have f:c/67108864+d*33554432%18446744073709551616=V/340282366920938463463374607431768211456%18446744073709551616:=by omega
 have m:d/549755813888+e*4096%18446744073709551616=V/6277101735386680763835789423207666416102355444464034512896%18446744073709551616:=by omega
 rw[o,g,f,m]
 apply aiw
 intro i q
 rw[aaI] at q
 rw[mw _ _ _ (by show 8*(i%8)<=64;omega),nD]
 clear p l k j n o g f m
 have:i=0\/i=1\/i=2\/i=3\/i=4\/i=5\/i=6\/i=7\/i=8\/i=9\/i=10\/i=11\/i=12\/i=13\/i=14\/i=15\/i=16\/i=17\/i=18\/i=19\/i=20\/i=21\/i=22\/i=23\/i=24\/i=25\/i=26\/i=27\/i=28\/i=29\/i=30\/i=31:=by omega
 rcases this with h|h|h|h|h|h|h|h|h|h|h|h|h|h|h|h|h|h|h|h|h|h|h|h|h|h|h|h|h|h|h|h<;>subst h<;>simp<;>omega
def VC{w}(h:Bd w):0<=lW w/\lW w<57896044618658097711785492504343953926634992332820282019728792003956564819968/\(iN (t4 w)>0↔Pm<=lW w)/\Bd (BY w)/\(iN (t4 w)>0->lW (BY w)=lW w-Pm):=by
 have⟨_,j,l,m,n,k⟩:=h
 have a:t0 w=X w 0 0+19:=by simp only[t0,jU,cL];omega
 have e1:t1 w=X w 1 0+(X w 0 0+19)/2251799813685248:=by simp only[t1,jU,cL,a,iN,oB];omega
 generalize e:(X w 0 0+19)/2251799813685248=q0 at*
 have e2:t2 w=X w 2 0+(X w 1 0+q0)/2251799813685248:=by simp only[t2,jU,cL,e1,iN,oB];omega
 generalize f:(X w 1 0+q0)/2251799813685248=q1 at*
 have b:t3 w=X w 3 0+(X w 2 0+q1)/2251799813685248:=by simp only[t3,jU,cL,e2,iN,oB];omega
 generalize i:(X w 2 0+q1)/2251799813685248=q2 at*
 have c:t4 w=X w 4 0+(X w 3 0+q2)/2251799813685248:=by simp only[t4,jU,cL,b,iN,oB];omega
 generalize d:(X w 3 0+q2)/2251799813685248=q3 at*
 have g:BY w=[(X w 0 0+19)%2251799813685248,(X w 1 0+q0)%2251799813685248,(X w 2 0+q1)%2251799813685248,(X w 3 0+q2)%2251799813685248,(X w 4 0+q3)%2251799813685248]:=by
  unfold BY
  rw[a,e1,e2,b,c]
  simp only[gG]
  rw[ku _ (by omega) (by omega),ku _ (by omega) (by omega),ku _ (by omega) (by omega),ku _ (by omega) (by omega),ku _ (by omega) (by omega)]
 rw[g,c]
 simp only[iN,oB]
 unfold lW v5
 rw[oA]
 simp only[af2,agk]
 refine⟨by omega,by omega,⟨λh=>by omega,λh=>by omega⟩,⟨rfl,?_,?_,?_,?_,?_⟩,λh=>by omega⟩<;>simp only[af2,agk]<;>omega
def VD w:0<=fv w/\fv w<Pm:=⟨Int.emod_nonneg _ (by have:=kg;omega),Int.emod_lt_of_pos _ kg⟩
def PI{a}(h:∀i,i<5->0<=X a i 0/\X a i 0<9223372036854775808):pN a=pM 32 (fv a):=by have⟨d,q,j⟩:=yF h;rw[pN,bD,d.cD];have⟨l,m,b,g,k⟩:=VC d;have f:fv a=lW (lX a)%Pm:=(nT j).symm;cases e:C (iN (t4 (lX a))>0) with
 |true=>
  have c:=agm e
  show Al (BY (lX a))=_
  rw[Ak g,k c,f]
  congr 1
  have:=b.1 c
  rw[oA] at this ⊢
  omega
 |false=>
  have c:=of_decide_eq_false e
  show Al (lX a)=_
  rw[Ak d,f]
  congr 1
  have:¬Pm<=lW (lX a):=λh=>c (b.2 h)
  rw[oA] at this ⊢
  omega
def Bd.words{w}(h:Bd w):∀i,i<5->0<=X w i 0/\X w i 0<9223372036854775808:=λi e=>by
 have⟨_,a,c,d,f,b⟩:=h;have:i=0\/i=1\/i=2\/i=3\/i=4:=by omega
 rcases this with rfl|rfl|rfl|rfl|rfl<;>omega
def Bd.bytes{w}(h:Bd w):pN w=pM 32 (fv w):=PI h.words
def rY{n}(b:0<=n)(h1:n<9223372036854775808):Bd (ep n)/\lW (ep n)=n:=by
 have a:C (n<0)=I:=aaS (by omega)
 unfold ep
 rw[a]
 show Bd (w7 n)/\lW (w7 n)=n
 have e:w7 n=[n%2251799813685248,n/2251799813685248,0,0,0]:=by
  unfold w7
  simp only[jU,cL,gG,iN,oB]
  rw[ku _ (by omega) (by omega)]
  congr 1
  ·omega
  ·congr 1;omega
 rw[e]
 unfold lW v5
 simp only[af2,agk]
 refine⟨⟨rfl,?_,?_,?_,?_,?_⟩,by omega⟩<;>simp only[af2,agk]<;>omega
def C4{e}(b:e.all u8=Z)(c:A e=32){i:Nat}(h1:i<256):ya e i=dD e/2^i%2:=by
 have a:=zk e b
 rw[c] at a
 have j:=kE b
 generalize dD e=v at*
 have e1:(i:Int).tdiv 8=((i/8:Nat):Int):=by rw[af6 (by omega)];omega
 have e2:(i:Int).tmod 8=((i%8:Nat):Int):=by rw[afS (by omega)];omega
 have g:i64.wrap ((i/8:Nat):Int)=((i/8:Nat):Int):=aM _ (by omega) (by omega)
 unfold ya
 rw[e1,e2,g,aaq,aaq,af8,a,wI _ _ _ (by omega)]
 rw[mw _ _ _ (by show i%8<=8;omega)]
 have f:v/256^(i/8)/2^(i%8)=v/2^i:=by
  rw[ajn (Int.pow_nonneg (by omega)),show(256:Int)=2^8 from rfl, <-Int.pow_mul, <-Int.pow_add]
  congr 2
  omega
 rw[<-f]
 generalize v/256^(i/8)=Y
 have d:i%8=0\/i%8=1\/i%8=2\/i%8=3\/i%8=4\/i%8=5\/i%8=6\/i%8=7:=by omega
 rcases d with h|h|h|h|h|h|h|h<;>rw[h]<;>simp only[Int.reducePow]<;>rw[VF _ (by omega) (by omega),aM _ (by omega) (by omega)]<;>omega
def rq x m n:x^m%Pm*(x^n%Pm)%Pm=x^(m+n)%Pm:=by rw[<-Int.mul_emod, <-Int.pow_add]
def abR{a e}(v:Bd a)(d:e.all u8=Z)(l:A e=32):Bd (Ae a e)/\fv (Ae a e)=fv a^O (dD e)%Pm:=by
 have r:=kE d
 have p:=BV d
 rw[l] at p
 have g:∀j,j<=256->Bd (xS a e j)/\fv (xS a e j)=fv a^O (dD e/2^(256-j))%Pm:=by
  intro j
  induction j with
  |zero=>
   intro _
   have⟨D,z⟩:=rY (n:=1) (by omega) (by omega)
   refine⟨D,?_⟩
   rw[xS,fv,z,Nat.sub_zero]
   have:dD e/2^256=0:=by
    rw[show(2:Int)^256=115792089237316195423570985008687907853269984665640564039457584007913129639936 by decide]
    rw[show(256:Int)^32=115792089237316195423570985008687907853269984665640564039457584007913129639936 by decide] at p
    omega
   rw[this]
   simp
  |succ j B=>
   intro H
   have⟨h,s⟩:=B (by omega)
   have⟨m,t⟩:=C5 h h
   have c:=C4 d l (i:=255-j) (by omega)
   have x:((255-j:Nat):Int)=255-(j:Int):=by omega
   rw[x] at c
   have o:dD e/2^(256-(j+1))=2*(dD e/2^(256-j))+dD e/2^(255-j)%2:=by
    have f:dD e/2^(256-j)=dD e/2^(255-j)/2:=by
     rw[ajn (Int.pow_nonneg (by omega)),show 256-j=(255-j)+1 by omega,Int.pow_succ]
    rw[f,show 256-(j+1)=255-j by omega]
    omega
   have w:0<=dD e/2^(256-j):=Int.ediv_nonneg r (Int.pow_nonneg (by omega))
   have k:fv (jZ (cD 5 (xS a e j)) (cD 5 (xS a e j)))=fv a^O (2*(dD e/2^(256-j)))%Pm:=by
    rw[t,s,rq]
    congr 2
    omega
   rw[xS]
   cases b:(ya e (255-(j:Int)) != 0) with
   |false=>
    simp only[bne_eq_false_iff_eq] at b
    rw[c] at b
    refine⟨m,?_⟩
    show fv (jZ (cD 5 (xS a e j)) (cD 5 (xS a e j)))=_
    rw[k,o,b,Int.add_zero]
   |true=>
    rw[bne_iff_ne] at b
    rw[c] at b
    have f:dD e/2^(255-j)%2=1:=by omega
    have⟨G,F⟩:=C5 m v
    refine⟨G,?_⟩
    show fv (jZ (cD 5 (jZ (cD 5 (xS a e j)) (cD 5 (xS a e j)))) (cD 5 a))=_
    have e1:fv a=fv a^1%Pm:=by rw[Int.pow_one];have:=VD a;exact(ahG this.1 this.2).symm
    rw[F,k]
    conv=>lhs;arg 1;arg 2;rw[e1]
    rw[rq,o,f]
    congr 2
    omega
 have⟨u,y⟩:=g 256 (aar _)
 rw[Ae,bD]
 refine⟨u,?_⟩
 rw[y,Nat.sub_self,Int.pow_zero,Int.ediv_one]
def ajS:dD e2=Pm-2:=by decide
def xC(x:Int)(n:Nat):Int:=x^n%Pm
def abq{a}(b:Bd a):Bd (KX a)/\fv (KX a)=xC (fv a) (O (Pm-2)):=by have:=abR b (e:=e2) (by decide) (by decide);rw[ajS] at this;exact this
end Fe
namespace La
open Sy Fe
def cl0:cu:=mk (P:=Q) [] []
def aiP:aq Q cl0:=au _ aN.nil _ _
def OU(l:pD):pD:=(l.set 0 (fj .u8 (X l 0 0) 248)).set 31 (qn .u8 (fj .u8 (X (l.set 0 (fj .u8 (l.getD 0 0) 248)) 31 0) 127) 64)
def mu(l:pD):pD:=lQ (OU l)
def clF:List SV->Option (SV×List Blk×Bool)
 | [.agg [.af .u8 32 l]]=>E (.sM (mu l),[],C (A l=32))
 |_=>Y
def R9{l}(h:A l=32):ak Q 191 [.sM l] [] (.sM (mu l)) []:=by rw[mu,bD];exact aP aiP 60 func191 (p:=aa (aa Z (Z&&C (A l=32))) (Z&&C (A (l.set 0 (fj .u8 (X l 0 0) 248))=32))) (by kernel_rfl) (by rw[ajT,h];rfl) rfl
def aiQ:aK Q:=.val 191 _ func191 (by decide) rfl I 0 clF λvs v new e=>by
 unfold clF at e
 split at e
 ·simp only[Mf,aad,aac] at e
  have⟨rfl,rfl,h⟩:=e
  exact R9 h
 ·cases e
abbrev fM(a b:pD):pD:=jZ (cD 5 a) (cD 5 b)
def wdX(x z:pD):pD:=fM (fM (j0 x z) (j0 x z)) (fM (j4 x z) (j4 x z))
def wdE(x z:pD):pD:=j4 (fM (j0 x z) (j0 x z)) (fM (j4 x z) (j4 x z))
def wdZ(x z:pD):pD:=fM (wdE x z) (j0 (fM (j0 x z) (j0 x z)) (fM (ep 121665) (wdE x z)))
def waL(x z a b:pD):pD:=fM (j4 a b) (j0 x z)
def waR(x z a b:pD):pD:=fM (j0 a b) (j4 x z)
def waX(x z a b:pD):pD:=fM (j0 (waL x z a b) (waR x z a b)) (j0 (waL x z a b) (waR x z a b))
def waZ(u x z a b:pD):pD:=fM u (fM (j4 (waL x z a b) (waR x z a b)) (j4 (waL x z a b) (waR x z a b)))
abbrev W4:=pD×pD×pD×pD
def OV(u:pD)(bit:Bool)(s:W4):W4:=
 bif bit then(waX s.2.2.1 s.2.2.2 s.1 s.2.1,waZ u s.2.2.1 s.2.2.2 s.1 s.2.1,wdX s.2.2.1 s.2.2.2,wdZ s.2.2.1 s.2.2.2)
 else(wdX s.1 s.2.1,wdZ s.1 s.2.1,waX s.1 s.2.1 s.2.2.1 s.2.2.2,waZ u s.1 s.2.1 s.2.2.1 s.2.2.2)
def rg(u:pD)(s:W4):Blk:=.b [.af .u64 5 u,.af .u64 5 s.1,.af .u64 5 s.2.1,.af .u64 5 s.2.2.1,.af .u64 5 s.2.2.2]
def stC:cu:=mk [EV,T6,wE,jK] []
def T7:aq Q stC:=au _ aN.nil _ _
def IE(b:Bool):Int:=bif b then 1 else 0
theorem aa7(u:pD)(b:Bool)(s:W4):ak Q 192 [.r5 0,.t6 (IE b)] [rg u s] (.bP []) [rg u (OV u b s)]:=by
 have⟨c,a,e,d⟩:=s
 cases b with
 |true=>exact qA T7 60 func192 1 (by simp) (by kernel_rfl) rfl rfl rfl
 |false=>exact qA T7 60 func192 1 (by simp) (by kernel_rfl) rfl rfl rfl
def KW(vs:List SV)(_:List Blk):List Nat:=match vs with
 | .aG b _ _::_=>[b]
 |_=>[]
def afQ(b:Bool):List SV->List Blk->Option (SV×List Blk×Bool)
 | [.aG 0 0 0,.int .i64 i],[.b [.af .u64 5 u,.af .u64 5 a,.af .u64 5 e,.af .u64 5 d,.af .u64 5 c]]=>E (.bP [],[rg u (OV u b (a,e,d,c))],C (i=IE b))
 |_,_=>Y
def arC(b:Bool):aK Q:=.mut 192 _ func192 (by decide) rfl KW 0 (afQ b) λvs g v h e=>by
 unfold afQ at e
 split at e
 ·rename_i i u f d c a
  simp only[Mf,aad,aac] at e
  obtain⟨rfl,rfl,rfl⟩:=e
  exact aa7 u b (f,d,c,a)
 ·cases e
def cmC(b:Bool)(x:Bool):cu:=mk [jK,aiQ,afR,arC b,aiU,wE] [] λi=>if i=5 then E x else Y
def zh(b x:Bool):aq Q (cmC b x):=au _ aN.nil _ _
def cmB:Code:=aI f149
def cmR:Code:=aJ 3 (aI f149)
def cmT:List (Option SV):=ag 38 [(4,.r5 2),(5,.r5 4),(19,.fn (.func 239) [] [.r5 5])]
def cmK(sec u e:pD)(s:W4):List Blk:=[.b [.t5 sec],.b [.af .u64 5 u],.b [.af .u64 5 z5],rg u s,.b [.r5 3],.b [.t5 e]]
def cmH(sec u e:pD)(s:W4)(l:Nat):List Blk:=[.b [.t5 sec],.b [.af .u64 5 u],.b [.af .u64 5 z5],rg u s,.b [.r5 3],.b [.t5 e],.g (E (IA cmR cmT l))]
def dH(sec u e:pD)(s:W4)(l:Nat)(i:Int):St:=⟨ag 20 [(0,.fn (.yield l) [] []),(1,.r5 5),(3,.t6 i)],cmH sec u e s l,Z⟩
def w0(u:pD):W4:=(ep 1,z5,u,ep 1)
section
variable (sec u e:pD) (s:W4) (l:Nat) (i:Int)
def aa8:(bh Q (cmC Z Z) 60 0 3 (aH cmB) ⟨aU f149.ntmps [.sM sec,.agg [.af .u64 5 u]],[],Z⟩).bind (St.cut [4,5,19] 6)=E ⟨cmT,cmK sec u (mu sec) (w0 u),aa Z (aa Z (C (A sec=32)))⟩:=by kernel_rfl
def T8(b:Bool):(bh Q (cmC b Z) 60 7 1 (aH (aI f239)) ⟨aU f239.ntmps [.fn (.yield l) [] [],.r5 5],cmH sec u e s l,Z⟩).bind (St.cut [0,1,3] 7)=E (dH sec u e s l 255):=by kernel_rfl
def aiV:(exec Q (cmC Z I) 60 7 qH (dH sec u e s l i)).bind (λr=>(r.2.cut [0,1,3] 7).map λq=>(r.1,q))=E (.exit 0,{dH sec u e s l i with ob:=aa Z (!C (i>=0))}):=by kernel_rfl
def T9(b:Bool):(exec Q (cmC b Z) 60 7 qH (dH sec u e s l i)).bind (λr=>(r.2.cut [0,1,3] 7).map λq=>(r.1,q))=
  E (.normal,{dH sec u e (OV u b s) l (i64.wrap (i-1)) with ob:=aa (Ua i) (aa (aa (aa (C (l=l)) (C (l=l))) (aa Z (C (ya e i=IE b)))) (C (l=l)))}):=by kernel_rfl
end
def wN(u:pD)(bits:Nat->Bool):Nat->W4
 |0=>w0 u
 |j+1=>OV u (bits j) (wN u bits j)
def aa9{sec u e:pD}{bits}(h:∀j:Nat,j<256->ya e (255-j)=IE (bits j)) l:ak Q 239 [.fn (.yield l) [] [],.r5 5] (cmH sec u e (w0 u) l) (.bP []) (cmH sec u e (wN u bits 256) l):=by
 have b:Tr Q Y 7 (aJ 1 (aI f239)) (dH sec u e (w0 u) l 255) .normal (dH sec u e (wN u bits 256) l (-1)):=by
  have a:=Tr.loop (P:=Q) (ro:=Y) (k:=7) 0 (c:=aJ 1 (aI f239)) rfl (λj:Nat=>dH sec u e (wN u bits j) l (255-j)) 256 (s':=dH sec u e (wN u bits 256) l (-1)) (λj f=>?_) ?_
  ·exact a
  ·have e1:(255:Int)-j-1=255-(j+1:Int):=by omega
   have d:i64.wrap (255-(j:Int)-1)=255-(j+1:Int):=by rw[aM _ (by omega) (by omega),e1]
   have g:=E2 (i:=255-(j:Int)) (by omega) (by omega)
   have k:=T9 sec u e (wN u bits j) l (255-j) (bits j)
   rw[d] at k
   exact Tr.post (Tr.cut (zh (bits j) Z) 60 _ 7 (by omega) k (by simp[aa,g,h j f])) (bG.bR rfl rfl)
  ·have k:=aiV sec u e (wN u bits 256) l (-1)
   exact Tr.post (Tr.cut (zh Z I) 60 _ 7 (by omega) k rfl) (bG.bR rfl rfl)
 refine ak.mk (vs:=[]) func239 rfl (x:=.normal) (s:=dH sec u e (wN u bits 256) l (-1)) ?_ (.inr rfl) rfl
 refine TrL.dM (zh Z Z) 60 1 _ 7 (by simp[cmH]) (T8 sec u e (w0 u) l Z) rfl (by decide) ?_
 exact TrL.dV 1 (by decide) b ⟨rfl,rfl⟩
def cmW(u:pD)(bits:Nat->Bool):pD:=lQ (fM (wN u bits 256).1 (KX (wN u bits 256).2.1))
def Ub{sec u:pD}{bits}(a:A sec=32)(b:∀j:Nat,j<256->ya (mu sec) (255-j)=IE (bits j)):ak Q 149 [.sM sec,.agg [.af .u64 5 u]] [] (.agg [.af .u64 5 (cmW u bits)]) []:=by
 rw[cmW,bD]
 refine ak.iH (zh Z Z) 60 4 0 func149 (by simp) rfl (λs' x h=>?_) (s:=⟨cmT,cmK sec u (mu sec) (wN u bits 256)++[.gap],Z⟩) (by kernel_rfl) rfl rfl rfl
 refine TrL.dM (zh Z Z) 60 3 _ 6 (by simp) (aa8 sec u) (by rw[Me a];rfl) (by decide) ?_
 refine TrL.dV 3 (by decide) ?_ h
 exact Tr.zi 0 rfl (first:=[]) (nM:=[.r5 5]) Z func239 (by decide) rfl rfl (λl=>aa9 b l)
  (λl=>⟨_,rfl,rfl,by simp[IA],rfl⟩) (λl=>rfl)
end La
namespace Re
open Sy Fe
def sB(f:Nat->Int):Nat->Int
 |0=>0
 |n+1=>sB f n+f n*65536^n
def gH{f g}:∀n,(∀i,i<n->f i=g i)->sB f n=sB g n
 |0,_=>rfl
 |n+1,h=>by rw[sB,sB,gH n λi a=>h i (by omega),h n (by omega)]
def DD f g:∀n,sB (λi=>f i+g i) n=sB f n+sB g n
 |0=>rfl
 |n+1=>by rw[sB,sB,sB,DD ..,Int.add_mul];omega
def Jj c f:∀n,sB (λi=>c*f i) n=c*sB f n
 |0=>by simp[sB]
 |n+1=>by rw[sB,sB,Jj ..,Int.mul_add,Int.mul_assoc]
def pO{f}:∀n,(∀i,i<n->f i=0)->sB f n=0
 |0,_=>rfl
 |n+1,h=>by rw[sB,pO n λi a=>h i (by omega),h n (by omega)];simp
def iq f a:∀n,sB f (a+n)=sB f a+65536^a*sB (λi=>f (a+i)) n
 |0=>by simp[sB]
 |n+1=>by
  rw[<-Nat.add_assoc,sB,sB,iq ..,Int.mul_add,Int.pow_add];have:f (a+n)*(65536^a*65536^n)=65536^a*(f (a+n)*65536^n):=by rw[<-Int.mul_assoc,Int.mul_comm (f (a+n)),Int.mul_assoc]
  omega
def jV{f}:∀n,(∀i,i<n->0<=f i/\f i<65536)->0<=sB f n/\sB f n<65536^n
 |0,_=>by simp[sB]
 |n+1,h=>by have d:=jV n λi g=>h i (by omega);have a:=h n (by omega);have c:(0:Int)<65536^n:=Int.pow_pos (by omega);rw[sB,Int.pow_succ];have e:0<=f n*65536^n:=Int.mul_nonneg a.1 (by omega);have b:f n*65536^n<=65535*65536^n:=Int.mul_le_mul_of_nonneg_right (by omega) (by omega);omega
def vK{f}:∀n i,i<n->(∀i,i<n->0<=f i/\f i<65536)->f i=sB f n/65536^i%65536
 |0,i,h,_=>by omega
 |n+1,i,h,a=>by
  have g:(0:Int)<65536^n:=Int.pow_pos (by omega);have c:=jV n λi b=>a i (by omega);rw[sB];by_cases b:i=n
  ·subst b;rw[Int.add_mul_ediv_right _ _ (by omega),Int.ediv_eq_zero_of_lt c.1 c.2,Int.zero_add];have:=a i (by omega);omega
  ·rw[vK n i (by omega) λi b=>a i (by omega)];have d:(65536:Int)^n=65536^i*(65536*65536^(n-i-1)):=by rw[<-Int.pow_succ', <-Int.pow_add];congr 1;omega
   have e:(65536:Int)^i≠0:=by have:(0:Int)<65536^i:=Int.pow_pos (by omega);omega
   rw[d,show f n*(65536^i*(65536*65536^(n-i-1)))=65536^i*(f n*(65536*65536^(n-i-1))) by rw[<-Int.mul_assoc,Int.mul_comm (f n),Int.mul_assoc],
    Int.add_mul_ediv_left _ _ e,show f n*(65536*65536^(n-i-1))=65536*(f n*65536^(n-i-1)) by rw[<-Int.mul_assoc,Int.mul_comm (f n),Int.mul_assoc],Int.add_mul_emod_self_left]
def agf{f g n m}(c:m<n)(j:∀i,i<n->0<=f i/\f i<65536)(e:∀i,i<n->0<=g i/\g i<65536)(d:∀i,m<i->i<n->f i=g i)(t:f m<g m):sB f n<sB g n:=by
 have a:∀k,m<k->k<=n->sB f k<sB g k:=by
  intro k;induction k with
  |zero=>intro h;omega
  |succ k l=>
   intro v r
   rw[sB,sB]
   by_cases o:k=m
   ·subst o
    have q:=jV k λi p=>j i (by omega)
    have u:=jV k λi p=>e i (by omega)
    have s:(0:Int)<65536^k:=Int.pow_pos (by omega)
    have:f k*65536^k+65536^k<=g k*65536^k:=by
     have:=Int.mul_le_mul_of_nonneg_right (show f k+1<=g k by omega) (show 0<=(65536:Int)^k by omega)
     rw[Int.add_mul,Int.one_mul] at this
     exact this
    omega
   ·have:=l (by omega) (by omega)
    rw[d k (by omega) (by omega)]
    omega
 exact a n c (aar _)
def gD(l:pD):Nat->Int:=λi=>X l i 0
def vR(l:pD):Int:=sB (gD l) 16
def part(x:Int):Bool:=C (0<=x)&&C (x<65536)
def FZ{x}:part x=Z↔0<=x/\x<65536:=by simp[part]
def ew(l:pD):Bool:=C (A l=16)&&l.all part
def ec{l}:ew l=Z↔A l=16/\∀i,i<16->0<=X l i 0/\X l i 0<65536:=by
 unfold ew;rw[No,aac,aaB];constructor
 ·rintro⟨b,a⟩;refine⟨b,λi c=>FZ.1 (a _ ?_)⟩;rw[abQ,aaQ (by omega)];exact List.getElem_mem _
 ·rintro⟨b,a⟩;refine⟨b,λx d=>?_⟩;obtain⟨i,c,rfl⟩:=List.getElem_of_mem d;have:=a i (by omega);rw[abQ,aaQ c] at this;exact FZ.2 this
def ug(n:Int):pD:=(t8 16).map λi=>n/65536^i%65536
def Am(n:Int){i}(h:i<16):X (ug n) i 0=n/65536^i%65536:=by unfold ug;rw[abQ,afr,ajq h];rfl
def abT(n:Int):ew (ug n)=Z:=ec.2 ⟨by simp[ug],λi a=>by rw[Am n a];omega⟩
def LJ{l}(h:ew l=Z):ug (vR l)=l:=by
 have⟨c,b⟩:=ec.1 h;apply agh;intro i;by_cases a:i<16
 ·have e1:(ug (vR l))[i]?=E (X (ug (vR l)) i 0):=by rw[abQ,aaQ (by simp[ug];omega)];rfl
  have e2:l[i]?=E (X l i 0):=by rw[abQ,aaQ (by omega)];rfl
  rw[e1,e2,Am _ a];congr 1;exact(vK 16 i a b).symm
 ·rw[afs (by simp[ug];omega),afs (by omega)]
def VG n:∀k,0<=n->sB (λi=>n/65536^i%65536) k=n%65536^k
 |0,h=>by simp[sB]
 |k+1,h=>by
  rw[sB,VG n k h,Int.pow_succ];have e:(0:Int)<65536^k:=Int.pow_pos (by omega);have j:=Int.mul_ediv_add_emod n (65536^k);have c:=Int.mul_ediv_add_emod (n/65536^k) 65536;have d:n=65536^k*65536*(n/65536^k/65536)+(n%65536^k+n/65536^k%65536*65536^k):=by
   conv=>lhs;rw[<-j, <-c]
   rw[Int.mul_add, <-Int.mul_assoc,Int.mul_comm (n/65536^k%65536)]
   generalize 65536^k*(n/65536^k%65536)=z
   rw[Int.add_assoc,Int.add_comm z]
  have l:=Int.emod_nonneg n (show(65536:Int)^k≠0 by omega)
  have o:=Int.emod_lt_of_pos n e
  have r3:0<=n/65536^k%65536/\n/65536^k%65536<65536:=by omega
  have s:n/65536^k%65536*65536^k<=65535*65536^k:=Int.mul_le_mul_of_nonneg_right (by omega) (by omega)
  have p:0<=n/65536^k%65536*65536^k:=Int.mul_nonneg r3.1 (by omega)
  have f:=ahV (· %((65536:Int)^k*65536)) d
  have g:∀m q r:Int,0<=r->r<m->(m*q+r)%m=r:=λm q r a b=>by rw[Int.add_comm,Int.add_mul_emod_self_left];exact ahG a b
  exact(f.trans (g _ _ _ (by omega) (by omega))).symm
def LK{n}(a:0<=n)(h1:n<115792089237316195423570985008687907853269984665640564039457584007913129639936):vR (ug n)=n:=by unfold vR;rw[gH (f:=gD (ug n)) 16 λi b=>Am n b,VG n 16 a];exact ahG a (by rw[show(65536:Int)^16=115792089237316195423570985008687907853269984665640564039457584007913129639936 by decide];exact h1)
def fZ{l}(h:ew l=Z):0<=vR l/\vR l<115792089237316195423570985008687907853269984665640564039457584007913129639936:=by have:=jV 16 (ec.1 h).2;rw[show(65536:Int)^16=115792089237316195423570985008687907853269984665640564039457584007913129639936 by decide] at this;exact this
def yG:pD:=[65517,65535,65535,65535,65535,65535,65535,65535,65535,65535,65535,65535,65535,65535,65535,32767]
def Jk:ew yG=Z:=by decide
def DE:vR yG=Pm:=by decide
def LL:List SV->Option (SV×List Blk×Bool)
 | []=>E (.agg [.af .i64 16 yG],[],Z)
 |_=>Y
def DF:aK Q:=.val 198 _ func198 (by decide) rfl I 0 LL λvs v new e=>by
 unfold LL at e;split at e
 ·cases e;exact aP ru 20 func198 rfl rfl rfl
 ·cases e
def LM(i:Int)(o:Bool):Bool:=aa (aa o (bC i 16)) (C (0+O i<16))
def nF{i o}(a:0<=i)(h1:i<16)(b:o=Z):LM i o=Z:=by subst b;unfold LM bC;rw[Me a,Me (by omega),Me (by omega)];rfl
def alC(x y:Bool):cu:=mk (P:=Q) [] [] λi=>if i=7 then E x else if i=16 then E y else Y
def w8(x y:Bool):aq Q (alC x y):=au _ aN.nil _ _
def alB:Code:=aj (aj (aJ 2 (aI f200)))
def alH(a b:pD):List Blk:=[.b [.af .i64 16 a],.b [.af .i64 16 b]]
def HO(a b:pD)(i:Int):St:=⟨ag 24 [(2,.r5 0),(3,.r5 1),(5,.t6 i)],alH a b,Z⟩
section
variable (a b:pD) (i:Int)
def asB:(exec Q (alC Z Z) 40 0 alB (HO a b i)).bind (λr=>(r.2.cut [4] 2).map λq=>(r.1,q))=
  E (.ret,⟨ag 24 [(4,.bool (C (X a (0+O i) 0>X b (0+O i) 0)))],alH a b,LM i (LM i (aa (LM i (LM i (aa Z (C (i>=0))))) (X a (0+O i) 0 != X b (0+O i) 0)))⟩):=by kernel_rfl
def asC:(exec Q (alC Z I) 40 0 alB (HO a b i)).bind (λr=>(r.2.cut [2,3,5] 2).map λq=>(r.1,q))=
  E (.normal,⟨(HO a b (i64.wrap (i-1))).t,alH a b,aa (LM i (LM i (aa Z (C (i>=0))))) (!(X a (0+O i) 0 != X b (0+O i) 0))⟩):=by kernel_rfl
def ajU:(exec Q (alC I I) 40 0 alB (HO a b i)).bind (λr=>(r.2.cut [2,3,5] 2).map λq=>(r.1,q))=
  E (.exit 0,⟨(HO a b i).t,alH a b,aa Z (!C (i>=0))⟩):=by kernel_rfl
def LN:(bh Q (alC Z Z) 40 0 2 (aH (aI f200)) ⟨aU f200.ntmps [.agg [.af .i64 16 a],.agg [.af .i64 16 b]],[],Z⟩).bind (St.cut [2,3,5] 2)=E (HO a b 15):=by kernel_rfl
end
def F0(f g:Nat->Int):∀n,(∀i,i<n->f i=g i)\/∃m,m<n/\f m≠g m/\∀i,m<i->i<n->f i=g i
 |0=>.inl λi l=>by omega
 |n+1=>by
  by_cases h:f n=g n
  ·rcases F0 f g n with q|⟨m,o,e,j⟩
   ·exact .inl λi l=>by
     by_cases c:i=n
     ·subst c;exact h
     ·exact q i (by omega)
   ·exact .inr ⟨m,by omega,e,λi d k=>by
     by_cases c:i=n
     ·subst c;exact h
     ·exact j i d (by omega)⟩
  ·exact .inr ⟨n,by omega,h,λi d k=>by omega⟩
def LO{a b j}(c:j<16)(h:X a (15-j) 0=X b (15-j) 0):Tr Q Y 0 alB (HO a b (15-j)) .normal (HO a b (15-((j+1:Nat):Int))):=by
 have k:=asC a b (15-j);have e1:i64.wrap (15-(j:Int)-1)=15-(j+1:Int):=by rw[aM _ (by omega) (by omega)];omega
 have e2:0+O (15-(j:Int))=15-j:=by omega
 rw[e1,e2] at k;refine Tr.post (Tr.cut (w8 Z I) 40 _ 2 (by omega) k ?_) (bG.bR rfl rfl);rw[av];refine⟨nF (by omega) (by omega) (nF (by omega) (by omega) (by rw[Me (by omega)];rfl)),?_⟩;rw[h];simp
theorem asD{a b}(F:ew a=Z)(H:ew b=Z):ak Q 200 [.agg [.af .i64 16 a],.agg [.af .i64 16 b]] [] (.bool (C (vR b<=vR a))) []:=by
 have y:=(ec.1 F).2
 have l:=(ec.1 H).2
 rcases F0 (gD a) (gD b) 16 with hall|⟨m,w,e,d⟩
 ·have v:vR a=vR b:=gH 16 hall
  rw[Me (show vR b<=vR a by omega)]
  have r:Tr Q Y 0 (aJ 2 (aI f200)) (HO a b 15) .normal (HO a b (-1)):=by
   have u:=Tr.loop (P:=Q) (ro:=Y) (k:=0) 0 (c:=aJ 2 (aI f200)) (by kernel_rfl) (λj:Nat=>HO a b (15-j)) 16 (s':=HO a b (-1)) (λj z=>?_) ?_
   ·exact u
   ·have q:=hall (15-j) (by omega)
    exact LO z q
   ·have k:=ajU a b (-1)
    exact Tr.post (Tr.cut (w8 I I) 40 _ 2 (by omega) k rfl) (bG.bR rfl rfl)
  refine ak.iH (w8 Z Z) 40 3 0 func200 (by simp) rfl (λs' x h=>?_) (s:=HO a b (-1)) (p:=Z) (by kernel_rfl) rfl rfl rfl
  refine TrL.dM (w8 Z Z) 40 2 _ 2 (by simp) (LN a b) rfl (by decide) ?_
  exact TrL.dV 2 (by decide) r h
 ·have v:C (vR b<=vR a)=C (X a m 0>X b m 0):=by
   rcases Int.lt_or_gt_of_ne e with h|h
   ·have o:vR a<vR b:=agf (f:=gD a) (g:=gD b) w y l d h
    have B:X a m 0<X b m 0:=h
    rw[aaS (by omega),aaS (by omega)]
   ·have o:vR b<vR a:=agf (f:=gD b) (g:=gD a) w l y (λi o G=>(d i o G).symm) h
    have B:X b m 0<X a m 0:=h
    rw[Me (by omega),Me (by omega)]
  rw[v]
  have D:Tr Q Y 0 alB (HO a b (15-((15-m:Nat):Int))) .ret ⟨ag 24 [(4,.bool (C (X a m 0>X b m 0)))],alH a b,Z⟩:=by
   have k:=asB a b (15-((15-m:Nat):Int))
   have e2:0+O ((15:Int)-((15-m:Nat):Int))=m:=by omega
   rw[e2] at k
   refine Tr.post (Tr.cut (w8 Z Z) 40 _ 2 (by omega) k ?_) (bG.bR rfl rfl)
   refine nF (by omega) (by omega) (nF (by omega) (by omega) ?_)
   rw[av]
   refine⟨nF (by omega) (by omega) (nF (by omega) (by omega) (by rw[Me (by omega)];rfl)),?_⟩
   exact bne_iff_ne.2 e
  have r:TrR Q Y 0 alB (HO a b 15) .ret ⟨ag 24 [(4,.bool (C (X a m 0>X b m 0)))],alH a b,Z⟩:=
   by
    refine TrR.for (by simp) (λj:Nat=>HO a b (15-j)) (15-m) (λj z=>?_) D
    have q:=d (15-j) (by omega) (by omega)
    exact LO (by omega) q
  refine(ak.mk (vs:=[.bool (C (X a m 0>X b m 0))]) (h:=[]) func200 rfl (x:=.ret) (s:=⟨ag 24 [(4,.bool (C (X a m 0>X b m 0)))],alH a b,Z⟩) ?_ (.inl rfl) (by kernel_rfl)).post (bG.dS (n:=0) (by simp) (by rfl))
  refine TrL.dM (w8 Z Z) 40 2 _ 2 (by simp) (LN a b) rfl (by decide) ?_
  exact TrL.jn 2 (by decide) (by simp) (Tr.rW 0 (by kernel_rfl) r)
def asE:List SV->Option (SV×List Blk×Bool)
 | [.agg [.af .i64 16 a],.agg [.af .i64 16 b]]=>E (.bool (C (vR b<=vR a)),[],ew a&&ew b)
 |_=>Y
def F2:aK Q:=.val 200 _ func200 (by decide) rfl I 0 asE λvs v new e=>by
 unfold asE at e;split at e
 ·simp only[Mf,aad,No] at e;have⟨rfl,rfl,c,d⟩:=e;exact asD c d
 ·cases e
def bw(a b:pD):Nat->Int
 |0=>0
 |j+1=>if X a j 0-X b j 0-bw a b j<0 then 1 else 0
def ZU(a b:pD)(j:Nat):Int:=X a j 0-X b j 0-bw a b j+65536*bw a b (j+1)
def yj(a b:pD):Nat->pD
 |0=>a
 |j+1=>(yj a b j).set j (ZU a b j)
def pP a b:∀j,A (yj a b j)=A a
 |0=>rfl
 |j+1=>by rw[yj,ajT,pP ..]
def yH a b:∀j i,i<A a->X (yj a b j) i 0=if i<j then ZU a b i else X a i 0
 |0,i,_=>rfl
 |j+1,i,h=>by
  rw[yj,abQ];by_cases c:j=i
  ·subst c;rw[acg (by rw[pP];exact h),ae8 (by omega)];rfl
  ·rw[abI c, <-abQ,yH a b j i h];by_cases d:i<j
   ·rw[ae8 d,ae8 (by omega)]
   ·rw[acB d,acB (by omega)]
def Jl a b:∀j,bw a b j=0\/bw a b j=1
 |0=>.inl rfl
 |j+1=>by rw[bw];split
          ·exact .inr rfl
          ·exact .inl rfl
def VH{a b}(e:ew a=Z)(d:ew b=Z){j}(c:j<16):0<=ZU a b j/\ZU a b j<65536:=by have h:=(ec.1 e).2 j c;have f:=(ec.1 d).2 j c;have g:=Jl a b j;unfold ZU;rw[bw];split<;>omega
def LP a b:∀n,sB (ZU a b) n=sB (gD a) n-sB (gD b) n+65536^n*bw a b n
 |0=>by simp[sB,bw]
 |n+1=>by rw[sB,sB,sB,LP ..];have e:ZU ..=gD a n-gD b n-bw ..+65536*bw ..:=rfl;rw[e,Int.pow_succ];generalize gD a n=x;generalize gD b n=y;generalize bw ..=u;generalize bw ..=v;generalize (65536:Int)^n=P;grind
def ajV{a b}(e:ew a=Z)(k:ew b=Z)(m:vR b<=vR a):yj a b 16=ug (vR a-vR b):=by
 have p:A (yj a b 16)=16:=by rw[pP,(ec.1 e).1]
 have n:=(ec.1 e).1;have c:=ec.2 ⟨p,λi d=>by rw[yH a b 16 i (by omega),ae8 d];exact VH e k d⟩;have j:=LP a b 16;have l:vR (yj a b 16)=sB (ZU a b) 16:=gH 16 λi d=>by show(yj a b 16).getD i 0=_;rw[yH a b 16 i (by omega),ae8 d]
 have r:=fZ c;have s:=fZ e;have t:=fZ k;have g:=Jl a b 16;have o:(65536:Int)^16=115792089237316195423570985008687907853269984665640564039457584007913129639936:=by decide
 rw[o] at j;have f:vR (yj a b 16)=vR a-vR b+115792089237316195423570985008687907853269984665640564039457584007913129639936*bw a b 16:=by rw[l];exact j
 have q:vR (yj a b 16)=vR a-vR b:=by rcases g with h|h<;>rw[h] at f<;>omega
 rw[<-q,LJ c]
def mnC(x y:Bool):cu:=mk (P:=Q) [] [] λi=>if i=9 then E x else if i=22 then E y else Y
def An(x y:Bool):aq Q (mnC x y):=au _ aN.nil _ _
def mnB:Code:=aj (aj (aJ 3 (aI f197)))
def Q4:pD:=t9 16 0
def mnH(a b:pD):List Blk:=[.b [.af .i64 16 a],.b [.af .i64 16 b],.b [.af .i64 16 Q4]]
def LQ(a b:pD)(c:Int)(i:Int):St:=⟨ag 29 [(2,.r5 0),(3,.r5 1),(4,.r5 2),(5,.t6 c),(6,.t6 i)],mnH a b,Z⟩
def mnT(a b:pD)(c i:Int):Int:=i64.wrap (i64.wrap (X a (0+O i) 0-X b (0+O i) 0)-c)
section
variable (a b:pD) (c i:Int)
def ajW:(exec Q (mnC Z Z) 40 0 mnB (LQ a b c i)).bind (λr=>(r.2.cut [2,3,4,5,6] 3).map λq=>(r.1,q))=
  E (.normal,⟨(LQ a b 1 (i64.wrap (i+1))).t,mnH (a.set (0+O i) (i64.wrap (mnT a b c i+65536))) b,
   aa (aa (aa (LM i (LM i (aa Z (C (i<16))))) (C (mnT a b c i<0))) (bC i 16)) (C (0+O i<16)&&C (A a=16))⟩):=by kernel_rfl
def ajX:(exec Q (mnC Z I) 40 0 mnB (LQ a b c i)).bind (λr=>(r.2.cut [2,3,4,5,6] 3).map λq=>(r.1,q))=
  E (.normal,⟨(LQ a b 0 (i64.wrap (i+1))).t,mnH (a.set (0+O i) (mnT a b c i)) b,
   aa (aa (aa (LM i (LM i (aa Z (C (i<16))))) (!C (mnT a b c i<0))) (bC i 16)) (C (0+O i<16)&&C (A a=16))⟩):=by kernel_rfl
def ajY:(exec Q (mnC I I) 40 0 mnB (LQ a b c i)).bind (λr=>(r.2.cut [2,3,4,5,6] 3).map λq=>(r.1,q))=
  E (.exit 0,⟨(LQ a b c i).t,mnH a b,aa Z (!C (i<16))⟩):=by kernel_rfl
def abU:(bh Q (mnC Z Z) 40 0 3 (aH (aI f197)) ⟨aU f197.ntmps [.agg [.af .i64 16 a],.agg [.af .i64 16 b]],[],Z⟩).bind (St.cut [2,3,4,5,6] 3)=E (LQ a b 0 0):=by kernel_rfl
end
def HQ(a b:pD):pD:=lQ (ug (vR a-vR b))
def abV{a b}(m:ew a=Z)(o:ew b=Z){j}(f:j<16):Tr Q Y 0 mnB (LQ (yj a b j) b (bw a b j) j) .normal (LQ (yj a b (j+1)) b (bw a b (j+1)) ((j+1:Nat):Int)):=by
 have g:=(ec.1 m).1;have q:=(ec.1 m).2 j f;have r:=(ec.1 o).2 j f;have p:=Jl a b j;have n:mnT (yj a b j) b (bw a b j) j=X a j 0-X b j 0-bw a b j:=by unfold mnT;rw[show 0+O (j:Int)=j by omega,yH a b j j (by omega),acB (by omega),aM (X a j 0-X b j 0) (by omega) (by omega),aM _ (by omega) (by omega)]
 have e1:i64.wrap ((j:Int)+1)=((j+1:Nat):Int):=by rw[aM _ (by omega) (by omega)];omega
 have e2:0+O (j:Int)=j:=by omega
 have e:A (yj a b j)=16:=by rw[pP,g]
 have l:LM j (LM j (aa Z (C ((j:Int)<16))))=Z:=nF (by omega) (by omega) (nF (by omega) (by omega) (by rw[Me (by omega)];rfl));have h:bC (j:Int) 16=Z:=by unfold bC;rw[Me (by omega),Me (by omega)];rfl
 by_cases d:X a j 0-X b j 0-bw a b j<0
 ·have k:=ajW (yj a b j) b (bw a b j) j;rw[n,e1,e2] at k;refine Tr.post (Tr.cut (An Z Z) 40 _ 3 (by omega) k ?_) (bG.bR ?_ ?_)
  ·rw[l,h,e,Me d,Me (f)];rfl
  ·rw[show bw a b (j+1)=1 by rw[bw,ae8 d]];rfl
  ·show mnH _ _=mnH _ _;rw[yj,ZU,bw,ae8 d,aM _ (by omega) (by omega)];rfl
 ·have k:=ajX (yj a b j) b (bw a b j) j;rw[n,e1,e2] at k;refine Tr.post (Tr.cut (An Z I) 40 _ 3 (by omega) k ?_) (bG.bR ?_ ?_)
  ·rw[l,h,e,aaS d,Me (f)];rfl
  ·rw[show bw a b (j+1)=0 by rw[bw,acB d]];rfl
  ·show mnH _ _=mnH _ _;rw[yj,ZU,bw,acB d];rw[Int.mul_zero,Int.add_zero]
def asG{a b}(g:ew a=Z)(f:ew b=Z)(d:vR b<=vR a):ak Q 197 [.agg [.af .i64 16 a],.agg [.af .i64 16 b]] [] (.agg [.af .i64 16 (HQ a b)]) []:=by
 rw[HQ,bD, <-ajV g f d];have m:Tr Q Y 0 (aJ 3 (aI f197)) (LQ a b 0 0) .normal (LQ (yj a b 16) b (bw a b 16) 16):=by
  have e:=Tr.loop (P:=Q) (ro:=Y) (k:=0) 0 (c:=aJ 3 (aI f197)) rfl (λj:Nat=>LQ (yj a b j) b (bw a b j) j) 16 (s':=LQ (yj a b 16) b (bw a b 16) 16) (λj n=>?_) ?_
  ·exact e
  ·exact abV g f n
  ·have k:=ajY (yj a b 16) b (bw a b 16) 16;exact Tr.post (Tr.cut (An I I) 40 _ 3 (by omega) k rfl) (bG.bR rfl rfl)
 refine ak.iH (An Z Z) 40 4 0 func197 (by simp) rfl (λs' x h=>?_) (s:=LQ (yj a b 16) b (bw a b 16) 16) (p:=Z) rfl rfl rfl rfl;refine TrL.dM (An Z Z) 40 3 _ 3 (by simp) (abU a b) rfl (by decide) ?_;exact TrL.dV 3 (by decide) m h
def asH:List SV->Option (SV×List Blk×Bool)
 | [.agg [.af .i64 16 a],.agg [.af .i64 16 b]]=>E (.agg [.af .i64 16 (HQ a b)],[],ew a&&ew b&&C (vR b<=vR a))
 |_=>Y
def DG:aK Q:=.val 197 _ func197 (by decide) rfl I 0 asH λvs v new e=>by
 unfold asH at e;split at e
 ·simp only[Mf,aad,No,aac] at e;have⟨rfl,rfl,⟨g,f⟩,d⟩:=e;exact asG g f d
 ·cases e
abbrev iw(n:Int):Int:=i64.wrap n
def nC(f:Nat->Int):Nat->Int
 |0=>iw (f 0+0)
 |i+1=>iw (f (i+1)+iw ((nC f i).tdiv 65536))
def dC(f:Nat->Int)(i:Nat):Int:=(nC f i).tmod 65536
def pQ(L:pD):pD:=(t8 16).map (λi=>iw (dC (gD L) i+iw (38*dC (gD L) (i+16))))++t9 16 0
def smH(L d:pD):List Blk:=[.b [.af .i64 32 L],.b [.af .i64 16 Q4],.b [.af .i64 16 d]]
def ZV(L:pD)(i:Int):St:=⟨ag 103 [(1,.r5 0),(2,.r5 1),(3,.r5 2),(4,.t6 i)],smH L Q4,Z⟩
def VI(x:Bool):cu:=mk [DF,F2,DG] [] λi=>if i=16 then E x else if i=98 then E x else Y
def pT(x:Bool):aq Q (VI x):=au _ aN.nil _ _
def aj0:cu:=mk (P:=Q) [] []
def DH:aq Q aj0:=au _ aN.nil _ _
def smB:Code:=aj (aj (aJ 3 (aI f159)))
def mC(f:Nat->Int):Nat->Int
 |0=>iw (dC f 0+iw (19*iw ((dC f 15).tdiv 32768)))
 |i+1=>iw ((if i=14 then(dC f 15).tmod 32768 else dC f (i+1))+iw ((mC f i).tdiv 65536))
def Ao(L:pD):pD:=(t8 16).map λi=>(mC (gD L) i).tmod 65536
def Q5(L d:pD):St:=⟨ag 103 [(2,.r5 1),(3,.r5 2)],smH L d,Z⟩
def smW:Code:=aj (aj (aJ 12 (aI f159)))
section
variable (L O:pD) (i:Int)
def VJ:(exec Q (VI Z) 80 0 smB (ZV (cD 32 L) i)).bind (λr=>(r.2.cut [1,2,3,4] 3).map λq=>(r.1,q))=
  E (.normal,⟨(ZV L (iw (i+1))).t,smH (pQ (cD 32 L)) Q4,aa Z (C (i<4))⟩):=by kernel_rfl
def abW:(exec Q (VI I) 80 0 smB (ZV L i)).bind (λr=>(r.2.cut [1,2,3,4] 3).map λq=>(r.1,q))=
  E (.exit 0,⟨(ZV L i).t,smH L Q4,aa Z (!C (i<4))⟩):=by kernel_rfl
def abX:(bh Q aj0 60 0 3 (aH (aI f159)) ⟨aU f159.ntmps [.agg [.af .i64 32 L]],[],Z⟩).bind (St.cut [1,2,3,4] 3)=E (ZV L 0):=by kernel_rfl
theorem aj1:(bh Q aj0 80 0 8 ((aH (aI f159)).drop 4) ⟨(ZV L 4).t,smH (cD 32 L) Q4,Z⟩).bind (St.cut [2,3] 3)=E (Q5 (cD 32 L) (Ao (cD 32 L))):=by kernel_rfl
end
def cC(f:Nat->Int):Nat->Int
 |0=>0
 |i+1=>(f i+cC f i)/65536
def F3{f n}(h:∀i,i<n->0<=f i/\f i<=1125899906842624):∀i,i<=n->0<=cC f i/\cC f i<=1125899906842624
 |0,_=>by simp[cC]
 |i+1,d=>by have:=h i (by omega);have:=F3 h i (by omega);rw[cC];omega
def BZ f:∀n,sB f n=sB (λi=>(f i+cC f i)%65536) n+65536^n*cC f n
 |0=>by simp[sB,cC]
 |n+1=>by
  rw[sB,sB,BZ f n,cC,Int.pow_succ];have e:f n=(f n+cC f n)%65536+65536*((f n+cC f n)/65536)-cC f n:=by omega
  generalize (f n+cC f n)%65536=x at*;generalize (f n+cC f n)/65536=y at*;generalize cC f n=z at*;generalize (65536:Int)^n=P;rw[e];grind
def Jm{f n}(h:∀i,i<n->0<=f i/\f i<=1125899906842624):∀i,i<n->nC f i=f i+cC f i/\dC f i=(f i+cC f i)%65536:=by
 have e:∀i,i<n->nC f i=f i+cC f i:=by intro i;induction i with
  |zero=>
   intro d;have:=h 0 d;rw[nC,cC,iw,aM _ (by omega) (by omega)]
  |succ i j=>
   intro d
   have k:=h i (by omega)
   have l:=h (i+1) d
   have c0:=F3 h i (by omega)
   have c1:=F3 h (i+1) (by omega)
   rw[cC] at c1
   rw[nC,j (by omega),af6 (by omega),cC,iw,iw,aM ((f i+cC f i)/65536) (by omega) (by omega),aM _ (by omega) (by omega)]
 intro i d
 have k:=h i d
 have c0:=F3 h i (by omega)
 refine⟨e i d,?_⟩
 unfold dC
 rw[e i d,afS (by omega)]
def Ap{f n}(h:∀i,i<n->0<=f i/\f i<=1125899906842624)(j:sB f n<65536^n):sB (dC f) n=sB f n:=by
 have e:=BZ f n;have m:=gH n λi d=>(Jm h i d).2;have r:=jV n λi d=>by show 0<=(f i+cC f i)%65536/\_;omega
 have k:=F3 h n (aar _);have l:(0:Int)<65536^n:=Int.pow_pos (by omega)
 have:cC f n=0:=by
  by_cases g:1<=cC f n
  ·have:=Int.mul_le_mul_of_nonneg_left g (show 0<=(65536:Int)^n by omega)
   omega
  ·omega
 rw[this] at e
 omega
def yI{f n}(h:∀i,i<n->0<=f i/\f i<=1125899906842624):∀i,i<n->0<=dC f i/\dC f i<65536:=λi d=>by rw[(Jm h i d).2];omega
def fE:Int:=115792089237316195423570985008687907853269984665640564039457584007913129639936
def Aq:(65536:Int)^16=fE:=by decide
def VK:(65536:Int)^32=fE*fE:=by decide
def rv(V:Int):Int:=V%fE+38*(V/fE)
structure Lk(L:pD):Prop where
 len:L.length=32
 b:∀i,i<32->0<=gD L i/\gD L i<=1125899906842624
def yJ{L}(h:Lk L) i(hi:i<32):gD (pQ L) i=if i<16 then dC (gD L) i+38*dC (gD L) (i+16) else 0:=by
 unfold gD pQ;rw[abQ];by_cases d:i<16
 ·have e:=yI h.b i (by omega);have f:=yI h.b (i+16) (by omega);rw[afy (by simpa using d),afr,ajq d,ae8 d];show iw (dC (gD L) i+iw (38*dC (gD L) (i+16)))=_;rw[iw,iw,aM (38*_) (by omega) (by omega),aM _ (by omega) (by omega)];rfl
 ·rw[afE (by simp;omega),acB d,List.getElem?_replicate,ae8 (by simp;omega)];rfl
def LS{L}(h:Lk L)(k:sB (gD L) 32<fE*fE):Lk (pQ L)/\(∀i,i<32->gD (pQ L) i<=2555865)/\(∀i,16<=i->i<32->gD (pQ L) i=0)/\sB (gD (pQ L)) 32=rv (sB (gD L) 32):=by
 have g:=yI h.b;have j:∀i,i<32->0<=gD ../\gD ..<=2555865:=λi d=>by
  rw[yJ h i d];split
  ·have:=g i d;have:=g (i+16) (by omega);omega
  ·omega
 refine⟨⟨by simp[pQ],λi d=>by have:=j i d;omega⟩,λi d=>(j i d).2,λi q d=>by rw[yJ h i d,acB (by omega)],?_⟩
 have l:=Ap h.b (by rw[VK];exact k)
 have e1:sB (dC (gD L)) (16+16)=sB (dC (gD L)) 16+65536^16*sB (λi=>dC (gD L) (16+i)) 16:=iq _ 16 16
 have e2:sB (gD (pQ L)) (16+16)=sB (gD (pQ L)) 16+65536^16*sB (λi=>gD (pQ L) (16+i)) 16:=iq _ 16 16
 have n:=pO 16 λi d=>by show gD (pQ L) (16+i)=0;rw[yJ h _ (by omega),acB (by omega)]
 have m:sB (gD (pQ L)) 16=sB (dC (gD L)) 16+38*sB (λi=>dC (gD L) (16+i)) 16:=by
  rw[<-Jj, <-DD]
  refine gH 16 λi d=>?_
  rw[yJ h i (by omega),ae8 d,Nat.add_comm 16 i]
 have o:=jV 16 λi d=>g i (by omega)
 have p:=jV 16 λi d=>g (16+i) (by omega)
 rw[Aq] at*
 have hB:fE=115792089237316195423570985008687907853269984665640564039457584007913129639936:=rfl
 unfold rv
 rw[<-l]
 show sB (gD (pQ L)) (16+16)=sB (dC (gD L)) (16+16)%fE+38*(sB (dC (gD L)) (16+16)/fE)
 rw[e2,n,m,e1]
 generalize sB (dC (gD L)) 16=x at*
 generalize sB (λi=>dC (gD L) (16+i)) 16=y at*
 rw[hB] at*
 omega
def DI V:rv V%Pm=V%Pm:=by
 have:rv V=V-2*(V/fE)*Pm:=by unfold rv;have hB:fE=115792089237316195423570985008687907853269984665640564039457584007913129639936:=rfl;rw[oA,hB];omega
 exact nT this
def gb(L:pD):Nat->pD
 |0=>L
 |j+1=>pQ (gb L j)
def uh(V:Int):Nat->Int
 |0=>V
 |j+1=>rv (uh V j)
def agi{V}(g:0<=V)(h1:V<fE*fE):(0<=uh V 1/\uh V 1<39*fE)/\(0<=uh V 2/\uh V 2<fE+1444)/\(0<=uh V 3/\uh V 3<fE)/\(0<=uh V 4/\uh V 4<fE):=by
 have hB:fE=115792089237316195423570985008687907853269984665640564039457584007913129639936:=rfl;have e:0<=uh V 1/\uh V 1<39*fE:=by
  show 0<=rv V/\rv V<39*fE;unfold rv;rw[hB] at h1 ⊢
  omega
 have f:0<=uh V 2/\uh V 2<fE+1444:=by
  show 0<=rv (uh V 1)/\rv (uh V 1)<fE+1444
  generalize uh V 1=x at*
  unfold rv
  rw[hB] at e ⊢
  omega
 have d:0<=uh V 3/\uh V 3<fE:=by
  show 0<=rv (uh V 2)/\rv (uh V 2)<fE
  generalize uh V 2=x at*
  unfold rv
  rw[hB] at f ⊢
  omega
 refine⟨e,f,d,?_⟩
 show 0<=rv (uh V 3)/\rv (uh V 3)<fE
 generalize uh V 3=x at*
 unfold rv
 rw[hB] at d ⊢
 omega
def VL{L}(h:Lk L)(e:sB (gD L) 32<fE*fE):∀j,j<=4->Lk (gb L j)/\sB (gD (gb L j)) 32=uh (sB (gD L) 32) j:=by
 have t:0<=sB (gD L) 32:=by
  have:∀n,n<=32->0<=sB (gD L) n:=by intro n;induction n with
   |zero=>intro _;simp[sB]
   |succ n v=>
    intro y;rw[sB];have x:=v (by omega);have D:=Int.mul_nonneg (h.b n (by omega)).1 (show 0<=(65536:Int)^n from Int.pow_nonneg (by omega));omega
  exact this 32 (aar _)
 have⟨s,r,q,B⟩:=agi t e;have hB:fE=115792089237316195423570985008687907853269984665640564039457584007913129639936:=rfl;have step:∀j,Lk (gb L j)/\sB ..=uh ..->uh (sB (gD L) 32) j<fE*fE->Lk (gb L (j+1))/\sB (gD (gb L (j+1))) 32=uh (sB (gD L) 32) (j+1):=λj g d=>by have⟨u,_,_,p⟩:=LS g.1 (by rw[g.2];exact d);exact⟨u,by show sB (gD (pQ (gb L j))) 32=rv (uh (sB (gD L) 32) j);rw[p,g.2]⟩
 have l:Lk (gb L 0)/\sB (gD (gb L 0)) 32=uh (sB (gD L) 32) 0:=⟨h,rfl⟩;have k:=step 0 l e;rw[hB] at s r q;have f:=step 1 k (by rw[hB];omega);have m:=step 2 f (by rw[hB];omega);have w:=step 3 m (by rw[hB];omega);intro j z;have:j=0\/j=1\/j=2\/j=3\/j=4:=by omega
 rcases this with rfl|rfl|rfl|rfl|rfl
 ·exact l
 ·exact k
 ·exact f
 ·exact m
 ·exact w
def gO(f:Nat->Int)(i:Nat):Int:=(if i=15 then dC f 15%32768 else dC f i)+(if i=0 then 19*(dC f 15/32768) else 0)
def abY{L}(h:∀i,i<16->0<=gD L i/\gD L i<=1125899906842624)(D:sB (gD L) 16<fE):
  ew (Ao L)=Z/\∃t,vR (Ao L)=sB (gD L) 16-t*Pm/\0<=vR (Ao L)/\vR (Ao L)<57896044618658097711785492504343953926634992332820282019728792003956564819987:=by
 have n:=yI h;have F:=Ap h (by rw[Aq];exact D);have k:=n 15 (by omega);have N:=n 0 (by omega)
 have f:∀i,i<16->0<=gO (gD L) i/\gO (gD L) i<=1125899906842624:=λi d=>by
  have:=n i d
  unfold gO
  split<;>split<;>omega
 have J:∀i,i<16->mC (gD L) i=gO (gD L) i+cC (gO (gD L)) i:=by
  intro i
  induction i with
  |zero=>
   intro _
   rw[mC,cC,gO,acB (by omega),ae8 rfl,af6 k.1,iw,iw,iw,aM (_/32768) (by omega) (by omega),aM (19*_) (by omega) (by omega),aM _ (by omega) (by omega)]
   omega
  |succ i K=>
   intro d
   have c1:=F3 f (i+1) (by omega)
   have c0:=F3 f i (by omega)
   have H:=f i (by omega)
   have P:=f (i+1) d
   have j:(if i=14 then(dC (gD L) 15).tmod 32768 else dC (gD L) (i+1))=gO (gD L) (i+1):=by
    unfold gO
    rw[acB (show¬i+1=0 by omega),Int.add_zero]
    by_cases l:i=14
    ·subst l
     rw[ae8 rfl,ae8 rfl,afS k.1]
    ·rw[acB l,acB (by omega)]
   rw[cC] at c1
   rw[mC,K (by omega),j,cC,af6 (by omega),iw,iw,aM ((gO (gD L) i+cC (gO (gD L)) i)/65536) (by omega) (by omega),aM _ (by omega) (by omega)]
 have z:∀i,i<16->gD (Ao L) i=(gO (gD L) i+cC (gO (gD L)) i)%65536:=λi d=>by
  unfold gD Ao
  rw[abQ,afr,ajq d]
  show(mC (gD L) i).tmod 65536=_
  have c0:=F3 f i (by omega)
  have H:=f i d
  rw[J i d,afS (by omega)]
  rfl
 have g:ew (Ao L)=Z:=ec.2 ⟨by simp[Ao],λi d=>by have:=z i d;unfold gD at this;rw[this];omega⟩
 have M:sB (gO (gD L)) 16=sB (gD L) 16-(dC (gD L) 15/32768)*Pm:=by
  rw[<-F]
  have o:sB (gO (gD L)) 16=sB (gO (gD L)) 15+gO (gD L) 15*65536^15:=rfl
  have G:sB (dC (gD L)) 16=sB (dC (gD L)) 15+dC (gD L) 15*65536^15:=rfl
  have w:sB (gO (gD L)) 15=sB (dC (gD L)) 15+19*(dC (gD L) 15/32768):=by
   have p:=iq (gO (gD L)) 1 14
   have x:=iq (dC (gD L)) 1 14
   have s:sB (λi=>gO (gD L) (1+i)) 14=sB (λi=>dC (gD L) (1+i)) 14:=gH 14 λi d=>by
    show gO (gD L) (1+i)=dC (gD L) (1+i)
    unfold gO
    rw[acB (by omega),acB (by omega),Int.add_zero]
   have q:sB (gO (gD L)) 1=dC (gD L) 0+19*(dC (gD L) 15/32768):=by simp[sB,gO]
   have v:sB (dC (gD L)) 1=dC (gD L) 0:=by simp[sB]
   show sB (gO (gD L)) (1+14)=sB (dC (gD L)) (1+14)+_
   rw[p,x,s,q,v]
   omega
  have y:gO (gD L) 15=dC (gD L) 15%32768:=by unfold gO;rw[ae8 rfl,acB (by omega),Int.add_zero]
  rw[o,G,w,y,oA]
  have e:(65536:Int)^15=1766847064778384329583297500742918515827483896875618958121606201292619776:=by decide
  rw[e]
  omega
 have u:sB (gO (gD L)) 16<57896044618658097711785492504343953926634992332820282019728792003956564819987:=by
  have o:sB (gO (gD L)) 16=sB (gO (gD L)) 15+gO (gD L) 15*65536^15:=rfl
  have y:gO (gD L) 15=dC (gD L) 15%32768:=by unfold gO;rw[ae8 rfl,acB (by omega),Int.add_zero]
  have w:sB (gO (gD L)) 15=sB (dC (gD L)) 15+19*(dC (gD L) 15/32768):=by
   have p:=iq (gO (gD L)) 1 14
   have x:=iq (dC (gD L)) 1 14
   have s:sB (λi=>gO (gD L) (1+i)) 14=sB (λi=>dC (gD L) (1+i)) 14:=gH 14 λi d=>by
    show gO (gD L) (1+i)=dC (gD L) (1+i)
    unfold gO
    rw[acB (by omega),acB (by omega),Int.add_zero]
   have q:sB (gO (gD L)) 1=dC (gD L) 0+19*(dC (gD L) 15/32768):=by simp[sB,gO]
   have v:sB (dC (gD L)) 1=dC (gD L) 0:=by simp[sB]
   show sB (gO (gD L)) (1+14)=sB (dC (gD L)) (1+14)+_
   rw[p,x,s,q,v]
   omega
  have r:=jV 15 λi d=>n i (by omega)
  have e:(65536:Int)^15=1766847064778384329583297500742918515827483896875618958121606201292619776:=by decide
  rw[e] at r
  rw[o,w,y,e]
  omega
 have m:vR (Ao L)=sB (gO (gD L)) 16:=by
  have e1:sB (dC (gO (gD L))) 16=sB (gO (gD L)) 16:=Ap f (by
   rw[Aq]
   have hB:fE=115792089237316195423570985008687907853269984665640564039457584007913129639936:=rfl
   rw[hB];omega)
  rw[<-e1]
  exact gH 16 λi d=>by rw[z i d,(Jm f i d).2]
 refine⟨g,dC (gD L) 15/32768,by rw[m,M],(fZ g).1,by rw[m];exact u⟩
section
variable (L O:pD)
def aj3(x:Bool):cu:=mk [DF,F2,DG] [] λi=>if i=98 then E x else Y
def LU(x:Bool):aq Q (aj3 x):=au _ aN.nil _ _
def asI:(exec Q (aj3 Z) 80 0 smW (Q5 L O)).bind (λr=>(r.2.cut [2,3] 3).map λq=>(r.1,q))=
  E (.normal,⟨(Q5 L O).t,smH L (HQ O yG),aa (aa (aa Z (aa Z (ew O&&ew yG))) (C (vR yG<=vR O))) (aa Z (ew O&&ew yG&&C (vR yG<=vR O)))⟩):=by kernel_rfl
def asJ:(exec Q (aj3 I) 80 0 smW (Q5 L O)).bind (λr=>(r.2.cut [2,3] 3).map λq=>(r.1,q))=
  E (.exit 10,⟨(Q5 L O).t,smH L O,aa (aa Z (aa Z (ew O&&ew yG))) (!C (vR yG<=vR O))⟩):=by kernel_rfl
end
def cJ(n:Int):pD:=lQ (ug n)
def pU n:cJ n=ug n:=bD _
def cS n:ew (cJ n)=Z:=by rw[pU];exact abT n
def lY{n}(d:0<=n)(h1:n<Pm):vR (cJ n)=n:=by rw[pU];exact LK d (by rw[oA] at h1;omega)
def VM{L O}(e:ew O=Z)(h1:vR O<57896044618658097711785492504343953926634992332820282019728792003956564819987):
  Tr prog Y 0 (aJ 12 (aI f159)) (Q5 L O) .normal (Q5 L (cJ (vR O%Pm))):=by
 have n:=(fZ e).1;have h:=DE;have d:∀Q,ew Q=Z->vR Q<Pm->Tr prog Y 0 smW ..:=λQ f l=>by
  have k:=asJ L Q
  refine Tr.post (Tr.cut (LU I) 80 _ 3 (by omega) k ?_) (bG.bR rfl rfl)
  rw[f,Jk,h,aaS (by omega)];rfl
 by_cases g:Pm<=vR O
 ·have j:HQ O yG=cJ (vR O%Pm):=by
   rw[HQ,bD,pU,h]
   congr 1
   rw[oA] at*
   omega
  have m:Tr prog Y 0 smW (Q5 L O) .normal (Q5 L (cJ (vR O%Pm))):=by
   have k:=asI L O
   rw[j] at k
   refine Tr.post (Tr.cut (LU Z) 80 _ 3 (by omega) k ?_) (bG.bR rfl rfl)
   rw[e,Jk,h,Me g];rfl
  refine Tr.agc 10 rfl (TrR.step m (TrR.jn (d _ (cS _) ?_) (by simp)))
  have:=Int.emod_lt_of_pos (vR O) kg
  rw[lY (Int.emod_nonneg _ (by have:=kg;omega)) this]
  exact this
 ·have f:cJ (vR O%Pm)=O:=by
   rw[pU,ahG n (by omega),LJ e]
  rw[f]
  exact Tr.agc 10 rfl (TrR.jn (d O e (by omega)) (by simp))
def okS(l:pD):Bool:=C (A l=32)&&(l.all (λx=>C (0<=x)&&C (x<=1125899906842624))&&C (sB (gD l) 32<fE*fE))
def DJ{l}:okS l=Z↔Lk l/\sB (gD l) 32<fE*fE:=by
 unfold okS;rw[No,No,aac,aac,aaB];constructor
 ·rintro⟨f,d,e⟩;refine⟨⟨f,λi g=>?_⟩,e⟩;have:=d (gD l i) (by unfold gD;rw[abQ,aaQ (by omega)];exact List.getElem_mem _);simpa using this
 ·rintro⟨⟨f,d⟩,e⟩;refine⟨f,λx h=>?_,e⟩;obtain⟨i,g,rfl⟩:=List.getElem_of_mem h;have:=d i (by omega);unfold gD at this;rw[abQ,aaQ g] at this;simpa using this
def VN(l:pD):pD:=cJ (sB (gD l) 32%Pm)
def asK{l}(h:okS l=Z):ak prog 159 [.agg [.af .i64 32 l]] [] (.agg [.af .i64 16 (VN l)]) []:=by
 have⟨y,q⟩:=DJ.1 h;have o:=VL y q;have g:=λj v=>bV (o j v).1.len;have M:Tr prog Y 0 (aJ 3 (aI f159)) (ZV l 0) .normal (ZV (gb l 4) 4):=by
  have m:=Tr.loop (P:=prog) (ro:=Y) (k:=0) 0 (c:=aJ 3 (aI f159)) rfl (λj:Nat=>ZV (gb l j) j) 4 (s':=ZV (gb l 4) 4) (λj v=>?_) ?_
  ·exact m
  ·have k:=VJ (gb l j) j
   rw[g j (by omega),iw,aM _ (by omega) (by omega),show(j:Int)+1=(j+1:Int) by omega] at k
   refine Tr.post (Tr.cut (pT Z) 80 _ 3 (by omega) k ?_) (bG.bR rfl rfl)
   rw[Me (by omega)];rfl
  ·have k:=abW (gb l 4) 4
   exact Tr.post (Tr.cut (pT I) 80 _ 3 (by omega) k rfl) (bG.bR rfl rfl)
 have⟨B,R⟩:=o 4 (by omega)
 have⟨F,T⟩:=o 3 (by omega)
 have N:0<=sB (gD l) 32:=by
  have:∀n,n<=32->0<=sB (gD l) n:=by
   intro n
   induction n with
   |zero=>intro _;simp[sB]
   |succ n Q=>
    intro hn
    rw[sB]
    have W:=Q (by omega)
    have h2:=Int.mul_nonneg (y.b n (by omega)).1 (show 0<=(65536:Int)^n from Int.pow_nonneg (by omega))
    omega
  exact this 32 (aar _)
 have⟨_,_,D,U⟩:=agi N q
 have⟨_,_,S,_⟩:=LS F (by rw[T];have hB:fE=115792089237316195423570985008687907853269984665640564039457584007913129639936:=rfl;rw[hB] at D ⊢;omega)
 have e:sB (gD (gb l 4)) 16=uh (sB (gD l) 32) 4:=by
  have:=iq (gD (gb l 4)) 16 16
  rw[pO (f:=λi=>gD (gb l 4) (16+i)) 16 (λi G=>S (16+i) (by omega) (by omega)),Int.mul_zero,Int.add_zero] at this
  rw[<-this]
  exact R
 have⟨H,t,V,o3,J⟩:=abY (L:=gb l 4) (λi G=>B.b i (by omega)) (by rw[e];exact U.2)
 have d:vR (Ao (gb l 4))%Pm=sB (gD l) 32%Pm:=by
  rw[nT V,e]
  show rv (rv (rv (rv (sB (gD l) 32))))%Pm=_
  rw[DI,DI,DI,DI]
 have r:=VM (L:=gb l 4) H J
 rw[d] at r
 have u:=aj1 (gb l 4)
 rw[g 4 (by omega)] at u
 refine ak.iH DH 60 13 0 func159 (by simp) rfl (λs' x K=>?_) (s:=Q5 (gb l 4) (VN l)) (p:=Z) rfl rfl rfl rfl
 refine TrL.dM DH 60 3 _ 3 (by simp) (abX l) rfl (by decide) ?_
 refine TrL.dV 3 (by decide) M ?_
 refine TrL.dM DH 80 8 _ 3 (by simp) u rfl (by decide) ?_
 rw[afu]
 exact TrL.dV 12 (by decide) r K
def vL:List SV->Option (SV×List Blk×Bool)
 | [.agg [.af .i64 32 l]]=>E (.agg [.af .i64 16 (VN l)],[],okS l)
 |_=>Y
def jK:aK Q:=.val 159 _ func159 (by decide) rfl I 0 vL λvs v new e=>by
 unfold vL at e;split at e
 ·simp only[Mf,aad] at e;have⟨rfl,rfl,h⟩:=e;exact asK h
 ·cases e
