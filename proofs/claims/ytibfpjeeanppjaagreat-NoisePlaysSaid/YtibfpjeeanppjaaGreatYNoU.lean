/- This file holds the texts NoT, NoU, a section each. No conditions beyond those in the theorems. -/
import Derived.Test.YtibfpjeeanppjaaGreatYNoS
set_option linter.all false
set_option maxRecDepth 100000
section
namespace Go.Proofs.YtibfpjeeanppjaaGreat.No
open Go Go.Sy Sh La
theorem yQ {ak:Int} {b:Bool} {p q:Bool} (h:ak=0∧b=p∨ak=1∧b=q):cN (ak+1)=true:=by rcases h with ⟨rfl,_⟩|⟨rfl,_⟩<;>rfl
theorem Zs (q:K4) (ch ha bN gf:List Int):bE (m7 q ch ha bN gf)=true:=Nq.CU _ _ _ _
theorem Zt (key af x:List Int):bE (Ae.cn key af x)=true:=R4.aY.2 (by unfold Ae.cn;exact R4.E6 1)
theorem Zu (bg:Bool) (ak:Int) (m:Nat) (q:K4):yd bg ak m q=0∨1≤yd bg ak m q∧yd bg ak m q≤12:=by
 unfold yd
 cases cr bg ak<;>cases decide (1024<m)<;>cases mW q<;>decide
theorem Zv (bg:Bool) (ak:Int) (m:Nat) (q:K4) (o:Bool):yP bg ak m q o=0∨1≤yP bg ak m q o∧yP bg ak m q o≤12:=by
 unfold yP
 cases cr bg ak||ak==2<;>cases decide (m<48)||decide (1072<m)<;>cases mW q<;>cases o<;>decide
structure Inv (g:Gm):Prop where
 s:cN g.ak=true
 ha:g.ha.length=32
 ua:bE g.ha=true
 ch:g.ch.length=32
 ms:Re.aj g.ms=true
 th:Re.aj g.th=true
theorem rX {N j:Nat} {x:List Int} {b:Bool} (hj:j<N) (hN:N≤8) (hx:x.length≤3000) (hb:b=true):obH N j x b=true:=by
 unfold obH
 rw [hb,decide_eq_true (show (j:Int)<N by omega),aK (by omega) (by omega),decide_eq_true (show ((j:Int)).toNat<N by omega),decide_eq_false (show ¬(x.length:Int)>3000 by omega),decide_eq_true (show x.length<270000000000 by omega)]
 rfl
theorem rY (x:List Int) (b:Bool):obZ x b=true:=by
 unfold obZ
 rw [AE,decide_eq_true (show 0+x.length≤x.length+2 by omega),decide_eq_true (show 0+x.length≤(x++([165,90]:List Int)).length by simp),decide_eq_true (rfl:x.length=x.length)]
 cases b<;>rfl
theorem N3 {X bg:Bool} {x h:List Int} {s:Int} (hX:X=true) (hx:x.length<270000000000) (ux:bE x=true) (hh:h.length=32) (hs:cN s=true):obM X bg x h h s=true:=by
 unfold obM
 rw [hX,hh,hs,ux,decide_eq_true hx,decide_eq_true (rfl:x.length=x.length),decide_eq_true (rfl:x.length+2=x.length+2),decide_eq_true (rfl:x++([165,90]:List Int)=x++[165,90]),decide_eq_true (rfl:h=h),beq_self_eq_true,beq_self_eq_true]
 rfl
theorem N4 {X bg:Bool} {c:List Int} {s:Int} (hX:X=true) (hc:c.length=32) (hs:cN s=true):obT (s==2) X bg c c s=true:=by
 cases h2:s==2 with
 |true=>
  have e1:(Nq.JU bg c).length=32:=by unfold Nq.JU;cases bg;exact (Cp.jA _).2;exact (Cp.jA _).1
  have e2:(Nq.JV bg c).length=32:=by unfold Nq.JV;cases bg;exact (Cp.jA _).1;exact (Cp.jA _).2
  unfold obT
  rw [hX,hc,h2,e1,e2,decide_eq_true (rfl:Nq.JU bg c=Nq.JU bg c),decide_eq_true (rfl:Nq.JV bg c=Nq.JV bg c)]
  rfl
 |false=>
  unfold obT
  rw [hX,hc,h2,hs]
  rfl
section
variable {own op peer aV:List Int} {bg:Bool} {k:Nat→Int} {dr t:Nat→List Int} {N:Nat}
theorem CV {g:Gm} {e:List Int} (I:Inv g) (ko:Re.aj own=true) (kp:Re.aj peer=true) (ke:Re.aj e=true):wC1 own peer g e=true:=by
 unfold wC1;rw [I.s,I.ha,I.ch,ke,fj ko kp ke I.th];rfl
theorem CW {g:Gm} {e:List Int} (I:Inv g) (ko:Re.aj own=true) (kp:Re.aj peer=true) (ke:Re.aj e=true):wC2 own peer g e=true:=by
 unfold wC2;rw [I.s,I.ha,I.ua,I.ch,ke,fj ko kp ke I.th];rfl
theorem CX {g:Gm} {x:List Int} (I:Inv g) (ko:Re.aj own=true) (kp:Re.aj peer=true) (ux:bE x=true):rC1 own peer g x=true:=by
 unfold rC1 rdP;rw [I.s,I.ha,I.ch,ko,kp,I.ms,ux];rfl
theorem CY {g:Gm} {x:List Int} (I:Inv g) (ko:Re.aj own=true) (kp:Re.aj peer=true) (ux:bE x=true):rC2 own peer g x=true:=by
 unfold rC2;rw [I.s,I.ha,I.ua,I.ch,(Re.bI.1 I.th).1,ko,kp,I.ms,ux];rfl
theorem N5 {g:Gm} {w ok:Bool} {j:Nat} {x e:List Int} {kk:Int} (I:Inv g) (ko:Re.aj own=true) (kp:Re.aj peer=true) (ke:Re.aj e=true) (ux:bE x=true) (hj:j<N) (hN:N≤8) (hx:x.length≤3000) (hw:(kk==0)=w)
  (hk:((bif w then wK own peer bg g e x else rK own peer bg g x)==0)=ok):obX own peer bg N g j w ok x x e kk=true:=by
 cases w with
 |true=>
  have hk':(wK own peer bg g e x==0)=ok:=hk
  cases ok with
  |true=>
   have u:bE (Ji own peer g e x)=true:=by unfold Ji;exact Bx.uM (Bx.lN (kN _ _)) (Zs _ _ _ _ _)
   unfold obX
   simp only [rX hj hN hx hw,rY,CV I ko kp ke,CW I ko kp ke,hk',u,decide_true]
   rfl
  |false=>
   have h0:=Zu bg g.ak x.length (meets true g.ak own peer e g.th)
   have h1:wK own peer bg g e x≠0:=by simpa using hk'
   have h2:(wK own peer bg g e x != 0)=true:=by simpa using h1
   have h3:=h0.resolve_left h1
   unfold obX
   simp only [rX hj hN hx hw,rY,CV I ko kp ke,CW I ko kp ke,h2,decide_eq_true (show 1≤wK own peer bg g e x from h3.1),decide_eq_true (show wK own peer bg g e x≤12 from h3.2),bne_self_eq_false]
   rfl
 |false=>
  have hk':(rK own peer bg g x==0)=ok:=hk
  have hw':(!(kk==0))=true:=by rw [hw];rfl
  cases ok with
  |true=>
   have u:bE (Jj own peer g x)=true:=by unfold Jj;exact Zt _ _ _
   unfold obX
   simp only [rX hj hN hx hw',rY,CX I ko kp ux,CY I ko kp ux,hk',u,decide_true]
   rfl
  |false=>
   have h0:=Zv bg g.ak x.length (lK g.ak own peer g.ms x) (mX g.ak own peer g.ms g.ch g.ha x)
   have h1:rK own peer bg g x≠0:=by simpa using hk'
   have h2:(rK own peer bg g x != 0)=true:=by simpa using h1
   have h3:=h0.resolve_left h1
   unfold obX
   simp only [rX hj hN hx hw',rY,CX I ko kp ux,CY I ko kp ux,h2,decide_eq_true (show 1≤rK own peer bg g x from h3.1),decide_eq_true (show rK own peer bg g x≤12 from h3.2),bne_self_eq_false]
   rfl
theorem N6 {g:Gm} {w ok:Bool} {x e:List Int} (I:Inv g) (ko:Re.aj own=true) (kp:Re.aj peer=true) (ke:Re.aj e=true) (ux:bE x=true)
  (hk:((bif w then wK own peer bg g e x else rK own peer bg g x)==0)=ok):Inv (gN own peer g w ok e x):=by
 cases ok with
 |false=>cases w<;>exact I
 |true=>
  cases w with
  |true=>
   have h0:wK own peer bg g e x=0:=by simpa using hk
   obtain ⟨h1,_,_⟩:=NW (fj ko kp ke I.th) h0
   exact ⟨yQ h1,S2.bn _,Nq.jM _,Aw _ _ _,ke,I.th⟩
  |false=>
   have h0:rK own peer bg g x=0:=by simpa using hk
   obtain ⟨h1,h2,_,_,_⟩:=N0 I.s I.ha I.ch ko kp I.ms ux h0
   exact ⟨yQ h1,S2.bn _,Nq.jM _,Aw _ _ _,I.ms,jL h2 ux⟩
noncomputable def CZ (own peer:List Int) (bg:Bool) (g:Gm) (kk:Int) (e x:List Int):Gm:=
 gN own peer g (kk==0) ((bif kk==0 then wK own peer bg g e x else rK own peer bg g x)==0) e x
theorem Tj (g:Gm) (i:Int) (w ok d:Bool):Bh own op peer aV bg k dr t N g i w ok d:=by
 cases w<;>cases ok<;>cases d
 ·exact Ti _ _ _ _ _ _ _ _ _ _ _
 ·exact Th _ _ _ _ _ _ _ _ _ _ _
 ·exact Tg _ _ _ _ _ _ _ _ _ _ _
 ·exact Tf _ _ _ _ _ _ _ _ _ _ _
 ·exact Te _ _ _ _ _ _ _ _ _ _ _
 ·exact Td _ _ _ _ _ _ _ _ _ _ _
 ·exact Tc _ _ _ _ _ _ _ _ _ _ _
 ·exact Tb _ _ _ _ _ _ _ _ _ _ _
theorem AF {g:Gm} {j:Nat} (I:Inv g) (ko:Re.aj own=true) (kp:Re.aj peer=true) (ke:Re.aj (dr j)=true) (ux:bE (t j)=true) (hj:j<N) (hN:N≤8) (hx:(t j).length≤3000):
  Tr Tryz.prog none 0 (inner (inner (aA 11 DF))) (vj own op peer aV bg k dr t N g g j) .normal (vj own op peer aV bg k dr t N (CZ own peer bg g (k j) (dr j) (t j)) (CZ own peer bg g (k j) (dr j) (t j)) ((j+1:Nat):Int)):=by
 unfold CZ
 generalize hw:(k j==0)=w
 generalize hk:((bif w then wK own peer bg g (dr j) (t j) else rK own peer bg g (t j))==0)=ok
 have I2:=N6 (w:=w) (ok:=ok) I ko kp ke ux hk
 have e:=Tj (own:=own) (op:=op) (peer:=peer) (aV:=aV) (bg:=bg) (k:=k) (dr:=dr) (t:=t) (N:=N) g j w ok ((gN own peer g w ok (dr j) (t j)).ak==2)
 unfold Bh at e
 rw [Int.toNat_natCast,AE,N5 I ko kp ke ux hj hN hx hw hk,N3 rfl (by omega) ux I2.ha I2.s,N4 rfl I2.ch I2.s,wrap_i64 _ (by omega) (by omega)] at e
 exact Tr.post (Tr.cut (cg _ _ _ _) 60 _ 4 (by omega) e rfl) (bq.same rfl rfl)
end
end Go.Proofs.YtibfpjeeanppjaaGreat.No
end
section
namespace Go.Proofs.YtibfpjeeanppjaaGreat.No
open Go Go.Sy Sh La
def ajQ (a b:Bool):Nat→Option Bool:=fun i=>if i=26 then some a else if i=31 then some b else if i=62 then some false else none
noncomputable def hdC (a b:Bool):bu:=mk (P:=Tryz.prog) [Zd,VS,Bt,Nq.Bt,Bn.UI,Bn.UK] [] (ajQ a b)
theorem AG (a b:Bool):ag Tryz.prog (hdC a b):=ah _ au.nil _ _
noncomputable def g0 (own peer:List Int) (bg:Bool) (x:List Int):Gm:=⟨Cp.iB,kF,tc bg (aJ own 9) peer x,Cp.iB,Cp.iB,Cp.iB,0,0,false⟩
noncomputable def hdO (own peer aV:List Int) (N:Nat):Bool:=
 aa (aa (aa (aa (aa (aa (aa (aa (aa (aa true (!decide ((N:Int)>8))) (!decide ((aV.length:Int)>500))) (aa true (decide (aV.length<270000000000)))) (aa true (Re.aj own)))
  (aa (aa true (aa true (aa true (aa (decide (0+aV.length≤aV.length+2)&&decide (0+aV.length≤(aV++[165,90]).length)) (decide ((N2 aV).length=aV.length)))))) (decide ((N2 aV).length<270000000000)&&decide ((aJ own 9).length=32)&&decide (peer.length=32))))
  (aa true (Re.aj own))) (aa true (bE aV&&decide (aV.length<270000000000)&&Re.aj (aJ own 9)&&Re.aj peer)))
  (aa true (decide (aV.length=aV.length)&&decide (aV.length+2=aV.length+2)&&decide (aV.length+2=aV.length+2)&&decide (aV++[165,90]=aV++[165,90])&&decide (aV.length<270000000000)&&bE aV)))
  (!!decide (aV++[165,90]=aV++[165,90]))) true
section
variable (own op peer aV:List Int) (bg:Bool) (k:Nat→Int) (dr t:Nat→List Int) (N:Nat)
noncomputable def Tk:List SV:=[.agg [.bool bg,.ints .u8 32 own,.ints .u8 32 peer,.ro false .u8 aV],.oJ false 34 N (opq k dr t)]
theorem ajS:(br Tryz.prog (hdC true true) 60 Tryz.f6 (Tk own peer aV bg k dr t N) []).map (fun x=>(x.1,x.2.2))=some (.bool true,aa true (decide ((N:Int)>8))):=by kernel_rfl
theorem ajT:(br Tryz.prog (hdC false true) 60 Tryz.f6 (Tk own peer aV bg k dr t N) []).map (fun x=>(x.1,x.2.2))=some (.bool true,aa (aa true (!decide ((N:Int)>8))) (decide ((aV.length:Int)>500))):=by kernel_rfl
theorem AH:(aW Tryz.prog (hdC false false) 60 0 11 (atoms DF) ⟨aO Tryz.f6.ntmps (Tk own peer aV bg k dr t N),[],true⟩).bind (St.cut [6,7,63,64,65] 4)=
  some {vj own (aJ own 9) peer aV bg k dr t N (g0 own peer bg (N2 aV)) (g0 own peer bg aV) 0 with ob:=hdO own peer aV N}:=by kernel_rfl
noncomputable def plR:St:=⟨slotsOf 193 [(4,.bool true)],[],true⟩
noncomputable def plE (g:Gm):St:=⟨slotsOf 193 [(6,.ptr 2 0 0),(7,.ptr 3 0 0)],[gX own peer aV bg,gC aV,gH own op peer bg g,gM own op peer bg g],true⟩
theorem Zw (g:Gm) (i:Int):(exec Tryz.prog (tg true true true (plF true true true)) 60 0 (inner (inner (aA 11 DF))) (vj own op peer aV bg k dr t N g g i)).bind (fun r=>(r.2.cut [4] 0).map fun q=>(r.1,q))=
  some (.ret,{plR with ob:=aa (aa (aa (aa true (decide (i<(N:Int)))) (cL i N)) (true&&(decide (i.toNat<N)&&true))) (decide (((t i.toNat).length:Int)>3000))}):=by kernel_rfl
theorem Zx (g:Gm) (i:Int):(exec Tryz.prog (tg true true true (plF false false true)) 60 0 (inner (inner (aA 11 DF))) (vj own op peer aV bg k dr t N g g i)).bind (fun r=>(r.2.cut [6,7] 4).map fun q=>(r.1,q))=
  some (.exit 0,{plE own op peer aV bg g with ob:=aa true (!decide (i<(N:Int)))}):=by kernel_rfl
end
section
variable {own peer aV:List Int} {bg:Bool} {k:Nat→Int} {dr t:Nat→List Int} {N:Nat}
theorem N7 (hN:N≤8) (hp:aV.length≤500) (ko:Re.aj own=true) (kp:Re.aj peer=true) (up:bE aV=true):hdO own peer aV N=true:=by
 unfold hdO
 rw [AE,ko,kp,up,kN,cM,(Re.bI.1 kp).1,decide_eq_false (show ¬(N:Int)>8 by omega),decide_eq_false (show ¬(aV.length:Int)>500 by omega),decide_eq_true (show aV.length<270000000000 by omega),decide_eq_true (rfl:aV.length=aV.length),decide_eq_true (rfl:aV.length+2=aV.length+2),decide_eq_true (rfl:aV++([165,90]:List Int)=aV++[165,90]),decide_eq_true (show 0+aV.length≤(aV++([165,90]:List Int)).length by simp),decide_eq_true (show 0+aV.length≤aV.length+2 by omega)]
 rfl
noncomputable def gs (own peer aV:List Int) (bg:Bool) (k:Nat→Int) (dr t:Nat→List Int):Nat→Gm
 |0=>g0 own peer bg aV
 |j+1=>CZ own peer bg (gs own peer aV bg k dr t j) (k j) (dr j) (t j)
theorem Hs:Re.aj Cp.iB=true:=by decide
theorem Zy (kp:Re.aj peer=true):Inv (g0 own peer bg aV):=⟨rfl,CQ _ _ _ _,by show bE (tc bg (aJ own 9) peer aV)=true;cases bg<;>exact Nq.jM _,S2.bn _,Hs,Hs⟩
theorem Jk {g:Gm} {kk:Int} {e x:List Int} (I:Inv g) (ko:Re.aj own=true) (kp:Re.aj peer=true) (ke:Re.aj e=true) (ux:bE x=true):Inv (CZ own peer bg g kk e x):=N6 I ko kp ke ux rfl
theorem N8 (ko:Re.aj own=true) (kp:Re.aj peer=true) (kd:∀j,j<N→Re.aj (dr j)=true) (ut:∀j,j<N→bE (t j)=true):∀j,j≤N→Inv (gs own peer aV bg k dr t j)
 |0,_=>Zy kp
 |j+1,h=>Jk (N8 ko kp kd ut j (by omega)) ko kp (kd j (by omega)) (ut j (by omega))
theorem Jl (ko:Re.aj own=true) (kp:Re.aj peer=true) (up:bE aV=true) (kd:∀j,j<N→Re.aj (dr j)=true) (ut:∀j,j<N→bE (t j)=true):
  ai Tryz.prog 6 [.agg [.bool bg,.ints .u8 32 own,.ints .u8 32 peer,.ro false .u8 aV],.oJ false 34 N (opq k dr t)] [] (.bool true) []:=by
 by_cases hN:8<N
 ·exact aF (AG true true) 60 Tryz.func6 (ajS own peer aV bg k dr t N) (by rw [decide_eq_true (show (N:Int)>8 by omega)];rfl) rfl
 by_cases hp:500<aV.length
 ·exact aF (AG false true) 60 Tryz.func6 (ajT own peer aV bg k dr t N) (by rw [decide_eq_false (show ¬(N:Int)>8 by omega),decide_eq_true (show (aV.length:Int)>500 by omega)];rfl) rfl
 have hh:=AH own peer aV bg k dr t N
 rw [N7 (by omega) (by omega) ko kp up,AE] at hh
 have hin:=N8 (aV:=aV) (bg:=bg) (k:=k) ko kp kd ut
 have step:∀j,j<N→(t j).length≤3000→Tr Tryz.prog none 0 (inner (inner (aA 11 DF))) (vj own (aJ own 9) peer aV bg k dr t N (gs own peer aV bg k dr t j) (gs own peer aV bg k dr t j) j) .normal
   (vj own (aJ own 9) peer aV bg k dr t N (gs own peer aV bg k dr t (j+1)) (gs own peer aV bg k dr t (j+1)) ((j+1:Nat):Int)):=fun j hj hx=>AF (hin j (by omega)) ko kp (kd j hj) (ut j hj) hj (by omega) hx
 by_cases hx:∃i,i<N∧3000<(t i).length
 ·have hx':∃i,i<N∧3000<(t i).length∧∀j,j<i→¬3000<(t j).length:=by
   obtain ⟨i,h1,h2⟩:=hx
   induction i using Nat.strongRecOn with
   |ind i ih=>
    by_cases q:∃j,j<i∧3000<(t j).length
    ·obtain ⟨j,hj,hb⟩:=q
     exact ih j hj (by omega) hb
    ·exact ⟨i,h1,h2,fun j hj hb=>q ⟨j,hj,hb⟩⟩
  obtain ⟨i,h1,h2,h3⟩:=hx'
  refine ai.mk Tryz.func6 rfl (x:=.ret) (s:=plR) (vs:=[.bool true]) ?_ (.inl rfl) rfl
  refine bf.items (AG false false) 60 11 _ 4 (by simp) hh rfl (by decide) ?_
  refine bf.leave 11 (by decide) (by simp) (Tr.qD 0 (by kernel_rfl) (iR.for (by simp) (fun j:Nat=>vj own (aJ own 9) peer aV bg k dr t N (gs own peer aV bg k dr t j) (gs own peer aV bg k dr t j) j) i (fun j hj=>step j (by omega) (by have:=h3 j hj;omega)) ?_))
  have e:=Zw own (aJ own 9) peer aV bg k dr t N (gs own peer aV bg k dr t i) i
  rw [Int.toNat_natCast,decide_eq_true (show (i:Int)<N by omega),aK (by omega) (by omega),decide_eq_true h1,decide_eq_true (show ((t i).length:Int)>3000 by omega)] at e
  exact Tr.cut (k:=0) (cg _ _ _ _) 60 _ 0 (Nat.le_refl _) e rfl
 ·have hr:ai Tryz.prog 6 (Tk own peer aV bg k dr t N) [] (.bool (decide ((gs own peer aV bg k dr t N).ha=(gs own peer aV bg k dr t N).ha))) []:=by
   refine ai.cu (cg true true true (plF true true true)) 60 12 0 Tryz.func6 (by simp) rfl (s:=plE own (aJ own 9) peer aV bg (gs own peer aV bg k dr t N)) (fun s' x h=>?_) (p:=aa true (aa (decide ((gs own peer aV bg k dr t N).ha.length=32)) (decide ((gs own peer aV bg k dr t N).ha.length=32)))) (by generalize gs own peer aV bg k dr t N=g;kernel_rfl) (by rw [(hin N (Nat.le_refl _)).ha];rfl) rfl rfl
   refine bf.items (AG false false) 60 11 _ 4 (by simp) hh rfl (by decide) ?_
   refine bf.item 11 (by decide) (s1:=plE own (aJ own 9) peer aV bg (gs own peer aV bg k dr t N)) (Tr.loop 0 (by kernel_rfl) (fun j:Nat=>vj own (aJ own 9) peer aV bg k dr t N (gs own peer aV bg k dr t j) (gs own peer aV bg k dr t j) j) N (fun j hj=>step j hj (Nat.not_lt.1 fun q=>hx ⟨j,hj,q⟩)) ?_) h
   have e:=Zx own (aJ own 9) peer aV bg k dr t N (gs own peer aV bg k dr t N) N
   rw [decide_eq_false (show ¬((N:Int)<N) by omega)] at e
   exact Tr.cut (k:=0) (cg _ _ _ _) 60 _ 4 (by omega) e rfl
  rw [decide_eq_true (rfl:(gs own peer aV bg k dr t N).ha=(gs own peer aV bg k dr t N).ha)] at hr
  exact hr
end
end Go.Proofs.YtibfpjeeanppjaaGreat.No
end
