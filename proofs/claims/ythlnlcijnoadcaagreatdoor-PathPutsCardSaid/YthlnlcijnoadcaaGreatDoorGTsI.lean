/- This file holds the texts TsH, TsI, a section each. No conditions beyond those in the theorems. -/
import Derived.Test.YthlnlcijnoadcaaGreatDoorGTsG
noncomputable section
open Go.Proofs.Tryz
open Go.IntKind (i64 u8 u64 u32)
set_option linter.all false
set_option maxRecDepth 100000
section
namespace Go.Proofs.YthlnlcijnoadcaaGreatDoor.Tr
open Go Go.Sy
theorem Jt:au 2 uE= .block 1 Nw:=by kernel_rfl
theorem Nz:(atoms uE).drop 4=[]:=by kernel_rfl
theorem NA:(atoms Nw).drop 6=[]:=by kernel_rfl
theorem NB:(atoms Pf).drop 4=[]:=by kernel_rfl
theorem TO:au 5 Nw= .cond (.tmp 65) Pf .skip:=by kernel_rfl
def qK (t:Nat->aj) (x j:Nat):Bool:=!((t (2*j)).used&&((t (2*j)).name==(t x).name))
def ji (N:Nat) (t:Nat->aj) (n x:Nat):Bool:=bif !(t x).used then uO (t x) eX else bif x%2==1 then gH N t x n else E7 (t x)&&(List.range (x/2)).all (qK t x)
def cN (N:Nat) (t:Nat->aj):Bool:=!(aO N==0)&&(!dy N t (i64.wrap ((aO N).tdiv 2)).toNat&&(List.range N).all (ji N t (aO N).toNat))
theorem K0 (i:Nat):(((i:Nat):Int).tmod 2==1)=(i%2==1):=by
 rw [show (2:Int)=((2:Nat):Int) from rfl, <-Int.ofNat_tmod]
 cases h:(i%2==1) with
 |true=>rw [eq_of_beq h];rfl
 |false=>
  rw [beq_eq_false_iff_ne] at h ⊢
  omega
theorem evN {i:Nat} (h:(i%2==1)=false):(i%2==0)=true:=by
 rw [beq_eq_false_iff_ne] at h
 rw [aaS]
 omega
theorem odN {i:Nat} (h:(i%2==1)=true):(i%2==0)=false:=by
 rw [aaS] at h
 rw [beq_eq_false_iff_ne]
 omega
section
variable {N:Nat} {t:Nat->aj} {n x j:Nat}
theorem Ph (hle:N<=71) (hx:x<N) (hj:j<x/2) (hb:qK t x j=true):Tr prog none 0 J5 (wj N t n x ((2*j:Nat):Int)) .normal (wj N t n x ((2*(j+1):Nat):Int)):=by
 have hlt:2*j<x:=by omega
 have TP:2*j<N:=by omega
 have hw:i64.wrap (((2*j:Nat):Int)+2)=((2*(j+1):Nat):Int):=by rw [cg (by omega) (by omega)];omega
 unfold qK at hb
 cases hu:(t (2*j)).used with
 |false=>
  have e:=Zr N t n x ((2*j:Nat):Int)
  rw [hw] at e
  exact Tr.aR (eg [(74,true),(81,false)]) 60 _ 0 (aaf _) (s':=wj N t n x ((2*(j+1):Nat):Int)) _ e (TK N t n x _) (by
   rw [aaa,fo hlt,bf TP,Me TP,show (t (2*j)).1=false from hu];rfl)
 |true=>
  rw [hu,abb] at hb
  have e:=Zs N t n x ((2*j:Nat):Int)
  rw [hw] at e
  exact Tr.aR (eg [(74,true),(81,true),(93,false)]) 60 _ 0 (aaf _) (s':=wj N t n x ((2*(j+1):Nat):Int)) _ e (TL N t n x _) (by
   rw [aaa,aaa,fo hlt,bf TP,Me TP,bf hx,Me hx,show (t (2*j)).1=true from hu,hb];rfl)
theorem Zv (hx:x<N) (hj:j<x/2) (hb:qK t x j=false):Tr prog none 0 J5 (wj N t n x ((2*j:Nat):Int)) .ret (bS 95 2 false):=by
 have hlt:2*j<x:=by omega
 have TP:2*j<N:=by omega
 unfold qK at hb
 have hb':(t (2*j)).used=true/\((t (2*j)).name==(t x).name)=true:=by simpa using hb
 exact Tr.aR (eg [(74,true),(81,true),(93,true)]) 60 _ 0 (aaf _) (s':=bS 95 2 false) _ (Zt N t n x _) (TM N t n x _) (by
  rw [aaa,aaa,fo hlt,bf TP,Me TP,bf hx,Me hx,show (t (2*j)).1=true from hb'.1,hb'.2];rfl)
theorem C1 (hx:x<N) (hu:(t x).used=true) (hp:(x%2==1)=false) {y:Exit} {s':St} (g:Tr prog none 0 Pf (Jq N t n x [(65,.bool true)]) y s') (hy:∀j,y≠.exit j) (h5:y= .normal->s'=kE N t n x) (hr:y= .normal\/y= .ret) (hle:N<=71):
  (y= .normal->Tr prog none 0 uE (kE N t n x) .normal (kE N t n ((x+1:Nat):Int)))/\(y= .ret->Tr prog none 0 uE (kE N t n x) .ret s'):=by
 have e:=Zo N t n x
 rw [cq (by omega)] at e
 have head:∀{z:Exit} {s2:St},aV prog none 0 ((atoms uE).drop 2) (kE N t n x) z s2->Tr prog none 0 uE (kE N t n x) z s2:=λg=>Tr.dr (aV.bk (eg [(21,true)]) 60 2 _ 0 (aap _) (s1:=kE N t n x) _ (Zn N t n x) (TH N t n x) (by rw [fo hx];rfl) (by decide) rfl g)
 have hi:∀{z:Exit} {s2:St},aV prog none 0 ((atoms Nw).drop 5) (Jq N t n x [(65,.bool true)]) z s2->aV prog none 0 (atoms Nw) (kE N t n x) z s2:=λg=>aV.bk (eg [(28,true),(43,true),(47,false),(60,true),(64,true)]) 60 5 _ 0 (aap _) (s1:=Jq N t n x [(65,.bool true)]) _ (aeI N t n x) (Zp N t n x) (by
  rw [aaa,bf hx,Me hx,show (t x).1=true from hu,K0,AU,hp,evN hp];rfl) (by decide) rfl g
 have hc:Tr prog none 0 (au 5 Nw) (Jq N t n x [(65,.bool true)]) y s':=by
  rw [TO]
  exact TrX.to (H:=HT) (H':=HT) (TrX.cond_true (by kernel_rfl) (TrX.of g λ_ _ _=>trivial)) λ_ _ _=>trivial
 constructor
 ·rintro rfl
  obtain rfl:=h5 rfl
  refine head (aV.item 2 (by decide) (s1:=kE N t n x) ?_ (aV.item 3 (by decide) (Tr.aR (eg []) 60 _ 0 (aaf _) (s':=kE N t n ((x+1:Nat):Int)) _ e (TI N t n x) rfl) (aV.nil Nz)))
  rw [Jt]
  exact Tr.b8 (Tr.dr (hi (aV.item 5 (by decide) hc (aV.nil NA)))) (by simp)
 ·rintro rfl
  refine head (aV.leave 2 (by decide) (by simp) ?_)
  rw [Jt]
  exact Tr.b8 (Tr.dr (hi (aV.leave 5 (by decide) (by simp) hc))) (by simp)
theorem TQ (hT:cF N t) (hn:n∈sizes) (hN:N=2*n-1) (hx:x<N) (hb:ji N t n x=true):Tr prog none 0 uE (kE N t n x) .normal (kE N t n ((x+1:Nat):Int)):=by
 have hle:=hT.le
 unfold ji at hb
 have hok:bF N (λi=>af (aq t i))=true:=bq hT
 cases hu:(t x).used with
 |false=>
  rw [hu] at hb
  have hb:uO (t x) eX=true:=hb
  have e:=Zj N t n x
  rw [cq (by omega)] at e
  exact Tr.aR (eg _) 60 _ 0 (aaf _) (s':=kE N t n ((x+1:Nat):Int)) _ e (TD N t n x) (by
   rw [aaa,fo hx,bf hx,Me hx,show gb (t x)=true from kC hT hx,show uO (t x) ⟨false,0,List.replicate 32 0,List.replicate 32 0,List.replicate 32 0,[]⟩=true from hb,hu];rfl)
 |true=>
  rw [hu] at hb
  cases hp:(x%2==1) with
  |true=>
   rw [hp] at hb
   have hb:gH N t x n=true:=hb
   have e:=Zl N t n x
   rw [cq (by omega)] at e
   exact Tr.aR (eg _) 60 _ 0 (aaf _) (s':=kE N t n ((x+1:Nat):Int)) _ e (TF N t n x) (by
    rw [aaa,aaa,fo hx,bf hx,Me hx,show (t x).1=true from hu,K0,AU,hp,odN hp,hok,sn hn hN hx,show gH N (ag λi=>af (aq t i)) x n=true from hb];rfl)
  |false=>
   rw [hp] at hb
   obtain ⟨h1,h2⟩:=abS.1 (show (E7 (t x)&&(List.range (x/2)).all (qK t x))=true from hb)
   refine (C1 hx hu hp (y:=.normal) (s':=kE N t n x) ?_ (by simp) (λ_=>rfl) (.inl rfl) hle).1 rfl
   refine Tr.dr (aV.bk (eg [(70,true)]) 60 3 _ 0 (aap _) (s1:=wj N t n x ((2*0:Nat):Int)) _ (Pg N t n x) (Js N t n x) ?_ (by decide) rfl (aV.item 3 (by decide) ?_ (aV.nil NB)))
   ·rw [aaa,bf hx,Me hx]
    show aa (aa (aa true true) (true&&(true&&true))) (E7 (t x))=true
    rw [h1];rfl
   ·have hz:x=2*(x/2):=by
     have:=eq_of_beq (evN hp);omega
    refine Tr.loop 2 (by kernel_rfl) (λj=>wj N t n x ((2*j:Nat):Int)) (x/2) (λj hj=>Ph hle hx hj (aah.1 h2 j (aan.2 hj))) ?_
    exact Tr.aR (eg [(74,false)]) 60 _ 0 (aaf _) _ (Zu N t n x _) (TN N t n x _) (by rw [fA (by omega)];rfl)
theorem Zw (hT:cF N t) (hn:n∈sizes) (hN:N=2*n-1) (hx:x<N) (hb:ji N t n x=false):Tr prog none 0 uE (kE N t n x) .ret (bS 95 2 false):=by
 have hle:=hT.le
 unfold ji at hb
 have hok:bF N (λi=>af (aq t i))=true:=bq hT
 cases hu:(t x).used with
 |false=>
  rw [hu] at hb
  have hb:uO (t x) eX=false:=hb
  exact Tr.aR (eg _) 60 _ 0 (aaf _) (s':=bS 95 2 false) _ (Zk N t n x) (TE N t n x) (by
   rw [aaa,fo hx,bf hx,Me hx,show gb (t x)=true from kC hT hx,show uO (t x) ⟨false,0,List.replicate 32 0,List.replicate 32 0,List.replicate 32 0,[]⟩=false from hb,hu];rfl)
 |true=>
  rw [hu] at hb
  cases hp:(x%2==1) with
  |true=>
   rw [hp] at hb
   have hb:gH N t x n=false:=hb
   exact Tr.aR (eg _) 60 _ 0 (aaf _) (s':=bS 95 2 false) _ (Zm N t n x) (TG N t n x) (by
    rw [aaa,aaa,fo hx,bf hx,Me hx,show (t x).1=true from hu,K0,hp,hok,sn hn hN hx,show gH N (ag λi=>af (aq t i)) x n=false from hb];rfl)
  |false=>
   rw [hp] at hb
   have hb:(E7 (t x)&&(List.range (x/2)).all (qK t x))=false:=hb
   refine (C1 hx hu hp (y:=.ret) (s':=bS 95 2 false) ?_ (by simp) (by simp) (.inr rfl) hle).2 rfl
   cases h1:E7 (t x) with
   |false=>
    exact Tr.aR (eg [(70,false)]) 60 _ 0 (aaf _) (s':=bS 95 2 false) _ (Zq N t n x) (TJ N t n x) (by
     rw [aaa,bf hx,Me hx]
     show aa (aa (aa true true) (true&&(true&&true))) (!E7 (t x))=true
     rw [h1];rfl)
   |true=>
    rw [h1,abb, <-cY] at hb
    cases hq:b6 (qK t x) (x/2) with
    |none=>rw [hq] at hb;cases hb
    |some j=>
     obtain ⟨j1,j2,j3⟩:=cX hq
     refine Tr.dr (aV.bk (eg [(70,true)]) 60 3 _ 0 (aap _) (s1:=wj N t n x ((2*0:Nat):Int)) _ (Pg N t n x) (Js N t n x) ?_ (by decide) rfl (aV.leave 3 (by decide) (by simp) (Tr.rZ 2 (by kernel_rfl) (TrR.for (by simp) (λj=>wj N t n x ((2*j:Nat):Int)) j (λi hi=>Ph hle hx (by omega) (j3 i hi)) (Zv hx j1 j2)))))
     rw [aaa,bf hx,Me hx]
     show aa (aa (aa true true) (true&&(true&&true))) (E7 (t x))=true
     rw [h1];rfl
theorem NC (hT:cF N t):ai prog 19 [.aJ false 99 N (aq t)] [] (.bool (cN N t)) []:=by
 have hle:=hT.le
 have hok:bF N (λi=>af (aq t i))=true:=bq hT
 have h72:decide (((N:Nat):Int)<72)=true:=Me (by omega)
 unfold cN
 cases h0:(aO N==0) with
 |true=>exact aI (eg _) 60 func19 (aeG N t) (by rw [h72,h0];rfl) rfl
 |false=>
  obtain ⟨n,hn,hv,hN⟩:=iG hle h0
  obtain ⟨l1,l2⟩:=zP (n:=N) hle
  cases h1:dy N t (i64.wrap ((aO ((N:Nat):Int)).tdiv 2)).toNat with
  |true=>exact aI (eg _) 60 func19 (aeH N t) (by
    rw [h72,h0,hok,Me hle,l1,l2,show dy N (ag λi=>af (aq t i)) (i64.wrap ((aO ((N:Nat):Int)).tdiv 2)).toNat=true from h1];rfl) rfl
  |false=>
   have e:=Nx N t
   rw [hv] at e
   have key:=ai.scan (P:=prog) (args:=[.aJ false 99 N (aq t)]) (h:=[]) (h':=[]) func19 rfl 5 0 (λx:Nat=>kE N t n ((x:Nat):Int)) (ji N t n) N
    (λz s' g=>aV.bk (eg [(10,false),(15,true)]) 60 5 _ 0 (by simp) (s1:=kE N t n ((0:Nat):Int)) _ e (Jr N t) (by
     rw [h72,h0,hok,Me hle,l1,l2,show dy N (ag λi=>af (aq t i)) (i64.wrap ((aO ((N:Nat):Int)).tdiv 2)).toNat=false from h1];rfl) (by decide) rfl g) (by decide) (by kernel_rfl)
    (λx hx hb _=>TQ hT hn hN hx hb) (λi=>bS 95 2 false) (λi=>[.bool false]) (λx hx hb _=>⟨Zw hT hn hN hx hb,rfl,rfl⟩) (sE:=⟨slotsOf 95 [],[],true⟩) (uM:=bS 95 2 true) (vE:=[.bool true]) (xE:=.ret) (λ_=>?_) (λ_=>⟨?_,.inl rfl,rfl,rfl⟩)
   ·rw [bX (g:=SV.bool) (vF:=λ_:Nat=>false) (vE:=true)] at key
    have hq:bP (ji N t n) N (λ_=>false) true=(List.range N).all (ji N t n):=by
     unfold bP;rw [<-cY];cases b6 _ _<;>rfl
    rw [hq] at key
    rw [hv,aaa]
    exact key
   ·exact Tr.aR (eg [(21,false)]) 60 _ 0 (aaf _) (s':=⟨slotsOf 95 [],[],true⟩) _ (TC N t n _) (Ny N t n _) (by rw [fA (aaf _)];rfl)
   ·exact aV.rest (eg []) 60 (by kernel_rfl) rfl
end
end Go.Proofs.YthlnlcijnoadcaaGreatDoor.Tr
end
section
namespace Go.Proofs.YthlnlcijnoadcaaGreatDoor.Tr
open Go Go.Sy
def J6 (l:List (Nat×Bool)):bO:=mk (P:=prog) [wg] [] (uT l)
theorem qM (l:List (Nat×Bool)):ak prog (J6 l):=az _ aL.nil _ _
def zV:Code:=aP f17
def Ju (N M:Nat) (t u:Nat->aj) (i:Int):St:=⟨slotsOf 27 [(0,.aJ false 99 N (aq t)),(1,.aJ false 99 M (aq u)),(5,.int .i64 i)],[],true⟩
theorem aeK (N M:Nat) (t u:Nat->aj):(aG prog (J6 [(10,true)]) 60 f17 [.aJ false 99 N (aq t),.aJ false 99 M (aq u)] []).map (λx=>(x.1,x.2.2))=some (.bool false,aa true (((N:Nat):Int) != ((M:Nat):Int))):=by kernel_rfl
theorem ND (N M:Nat) (t u:Nat->aj):aA (ah [0,1,5] 0 ((aE prog (J6 [(10,false)]) 60 0 4 (atoms zV) ⟨aD f17.ntmps [.aJ false 99 N (aq t),.aJ false 99 M (aq u)],[],true⟩).map λs=>(Exit.normal,s)))=some (.normal,(Ju N M t u 0).t,[]):=by kernel_rfl
theorem Jv (N M:Nat) (t u:Nat->aj):aZ (ah [0,1,5] 0 ((aE prog (J6 [(10,false)]) 60 0 4 (atoms zV) ⟨aD f17.ntmps [.aJ false 99 N (aq t),.aJ false 99 M (aq u)],[],true⟩).map λs=>(Exit.normal,s)))=(aa true !((N:Nat):Int) != ((M:Nat):Int)):=by kernel_rfl
theorem Zx (N M:Nat) (t u:Nat->aj) (i:Int):aA (ah [0,1,5] 0 (exec prog (J6 [(14,true),(26,false)]) 60 0 (inner (inner (au 4 zV))) (Ju N M t u i)))=some (.normal,(Ju N M t u (i64.wrap (i+1))).t,[]):=by kernel_rfl
theorem TS (N M:Nat) (t u:Nat->aj) (i:Int):aZ (ah [0,1,5] 0 (exec prog (J6 [(14,true),(26,false)]) 60 0 (inner (inner (au 4 zV))) (Ju N M t u i)))=(aa (aa (aa (aa (aa (aa (aa true (decide (i<((N:Nat):Int)))) (aX i N)) (true&&(decide (i.toNat<N)&&true))) (aX i M)) (true&&(decide (i.toNat<M)&&true))) (aa true (gb {used:=(t i.toNat).used,name:=(t i.toNat).name,key:=(t i.toNat).key,sign:=(t i.toNat).sign,par:=(t i.toNat).par,un:=(t i.toNat).un}&&gb {used:=(u i.toNat).used,name:=(u i.toNat).name,key:=(u i.toNat).key,sign:=(u i.toNat).sign,par:=(u i.toNat).par,un:=(u i.toNat).un}))) !!uO {used:=(t i.toNat).used,name:=(t i.toNat).name,key:=(t i.toNat).key,sign:=(t i.toNat).sign,par:=(t i.toNat).par,un:=(t i.toNat).un} {used:=(u i.toNat).used,name:=(u i.toNat).name,key:=(u i.toNat).key,sign:=(u i.toNat).sign,par:=(u i.toNat).par,un:=(u i.toNat).un}):=by kernel_rfl
theorem Zy (N M:Nat) (t u:Nat->aj) (i:Int):aA (ah [4] 0 (exec prog (J6 [(14,true),(26,true)]) 60 0 (inner (inner (au 4 zV))) (Ju N M t u i)))=some (.ret,(bS 27 4 false).t,[]):=by kernel_rfl
theorem TT (N M:Nat) (t u:Nat->aj) (i:Int):aZ (ah [4] 0 (exec prog (J6 [(14,true),(26,true)]) 60 0 (inner (inner (au 4 zV))) (Ju N M t u i)))=(aa (aa (aa (aa (aa (aa (aa true (decide (i<((N:Nat):Int)))) (aX i N)) (true&&(decide (i.toNat<N)&&true))) (aX i M)) (true&&(decide (i.toNat<M)&&true))) (aa true (gb {used:=(t i.toNat).used,name:=(t i.toNat).name,key:=(t i.toNat).key,sign:=(t i.toNat).sign,par:=(t i.toNat).par,un:=(t i.toNat).un}&&gb {used:=(u i.toNat).used,name:=(u i.toNat).name,key:=(u i.toNat).key,sign:=(u i.toNat).sign,par:=(u i.toNat).par,un:=(u i.toNat).un}))) !uO {used:=(t i.toNat).used,name:=(t i.toNat).name,key:=(t i.toNat).key,sign:=(t i.toNat).sign,par:=(t i.toNat).par,un:=(t i.toNat).un} {used:=(u i.toNat).used,name:=(u i.toNat).name,key:=(u i.toNat).key,sign:=(u i.toNat).sign,par:=(u i.toNat).par,un:=(u i.toNat).un}):=by kernel_rfl
theorem TU (N M:Nat) (t u:Nat->aj) (i:Int):aA (ah [] 0 (exec prog (J6 [(14,false)]) 60 0 (inner (inner (au 4 zV))) (Ju N M t u i)))=some (.exit 0,slotsOf 27 [],[]):=by kernel_rfl
theorem NF (N M:Nat) (t u:Nat->aj) (i:Int):aZ (ah [] 0 (exec prog (J6 [(14,false)]) 60 0 (inner (inner (au 4 zV))) (Ju N M t u i)))=(aa true !decide (i<((N:Nat):Int))):=by kernel_rfl
section
variable {N M:Nat} {t u:Nat->aj}
theorem Jw (h:N<=274877906944) (hT:Cd N t) (hU:Cd M u):ai prog 17 [.aJ false 99 N (aq t),.aJ false 99 M (aq u)] [] (.bool (tT N M t u)) []:=by
 unfold tT
 cases h0:((N:Int) != (M:Int)) with
 |true=>exact aI (qM [(10,true)]) 60 func17 (aeK N M t u) (by rw [h0];rfl) rfl
 |false=>
  have hNM:N=M:=by
   have:((N:Int)==(M:Int))=true:=by simpa [bne] using h0
   have:=eq_of_beq this
   omega
  subst hNM
  have key:=ai.scan (P:=prog) (args:=[.aJ false 99 N (aq t),.aJ false 99 N (aq u)]) (h:=[]) (h':=[]) func17 rfl 4 0 (λj:Nat=>Ju N N t u ((j:Nat):Int)) (λi=>uO (t i) (u i)) N
   (λx s' g=>aV.bk (qM [(10,false)]) 60 4 _ 0 (by simp) (s1:=Ju N N t u ((0:Nat):Int)) _ (ND N N t u) (Jv N N t u) (by rw [h0];rfl) (by decide) rfl g) (by decide) (by kernel_rfl)
   (λj hj hb _=>?_) (λi=>bS 27 4 false) (λi=>[.bool false]) (λj hj hb _=>⟨?_,rfl,rfl⟩) (sE:=⟨slotsOf 27 [],[],true⟩) (uM:=bS 27 4 true) (vE:=[.bool true]) (xE:=.ret) (λ_=>?_) (λ_=>⟨?_,.inl rfl,rfl,rfl⟩)
  ·rw [bX (g:=SV.bool) (vF:=λ_:Nat=>false) (vE:=true)] at key
   exact key
  ·have e:=Zx N N t u j
   rw [cq (by omega)] at e
   exact Tr.aR (qM [(14,true),(26,false)]) 60 _ 0 (aaf _) (s':=Ju N N t u ((j+1:Nat):Int)) _ e (TS N N t u j) (by
    rw [aaa,fo hj,bf hj,Me hj,show gb (t j)=true from hT j hj,show gb (u j)=true from hU j hj,show uO (t j) (u j)=true from hb];rfl)
  ·exact Tr.aR (qM [(14,true),(26,true)]) 60 _ 0 (aaf _) (s':=bS 27 4 false) _ (Zy N N t u j) (TT N N t u j) (by
    rw [aaa,fo hj,bf hj,Me hj,show gb (t j)=true from hT j hj,show gb (u j)=true from hU j hj,show uO (t j) (u j)=false from hb];rfl)
  ·exact Tr.aR (qM [(14,false)]) 60 _ 0 (aaf _) (s':=⟨slotsOf 27 [],[],true⟩) _ (TU N N t u _) (NF N N t u _) (by rw [fA (aaf _)];rfl)
  ·exact aV.rest (qM []) 60 (by kernel_rfl) rfl
theorem cF.parts (h:cF N t):Cd N t:=λ_ hi=>kC h hi
end
end Go.Proofs.YthlnlcijnoadcaaGreatDoor.Tr
end
