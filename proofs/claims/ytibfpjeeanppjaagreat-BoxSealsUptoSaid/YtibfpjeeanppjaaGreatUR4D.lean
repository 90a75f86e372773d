/- This file holds the texts R4A, R4C, R4D, a section each. No conditions beyond those in the theorems. -/
import Derived.Test.YtibfpjeeanppjaaGreatUR3E
set_option linter.all false
set_option maxRecDepth 100000
section
namespace Go.Proofs.YtibfpjeeanppjaaGreat.R4
open Go Go.Sy Sh
def nv:List Int→Int
 | []=>0
 |x::l=>x+256*nv l
def Dg (l:List Int):Prop:=∀z∈l,0≤z∧z<256
theorem Dg.nil:Dg []:=fun _ h=>by cases h
theorem Dg.cons {x:Int} {l:List Int}:Dg (x::l)↔(0≤x∧x<256)∧Dg l:=
 ⟨fun h=>⟨h x (List.mem_cons_self ..),fun z hz=>h z (List.mem_cons_of_mem _ hz)⟩,fun h z hz=>by
  rcases List.mem_cons.1 hz with rfl|q
  ·exact h.1
  ·exact h.2 z q⟩
theorem Dg.app {a b:List Int} (h:Dg a) (g:Dg b):Dg (a++b):=fun z hz=>by
 rcases List.mem_append.1 hz with q|q
 ·exact h z q
 ·exact g z q
theorem Dg.take {a:List Int} (h:Dg a) (n:Nat):Dg (a.take n):=fun z hz=>h z (List.mem_of_mem_take hz)
theorem Dg.drop {a:List Int} (h:Dg a) (n:Nat):Dg (a.drop n):=fun z hz=>h z (List.mem_of_mem_drop hz)
theorem Dg.getD {a:List Int} (h:Dg a) (i:Nat):0≤a.getD i 0∧a.getD i 0<256:=by
 rw [List.getD_eq_getElem?_getD]
 cases e:a[i]? with
 |none=>exact ⟨by decide,by decide⟩
 |some x=>exact h x (List.mem_of_getElem? e)
theorem Dg.set {a:List Int} (h:Dg a) (i:Nat) {x:Int} (hx:0≤x∧x<256):Dg (a.set i x):=fun z hz=>by
 rcases List.mem_or_eq_of_mem_set hz with q|rfl
 ·exact h z q
 ·exact hx
theorem fH:∀(a b:List Int),nv (a++b)=nv a+256^a.length*nv b
 | [],b=>by simp [nv]
 |x::a,b=>by
  rw [List.cons_append,nv,nv,fH a b,List.length_cons,Int.pow_succ,Int.mul_comm (256^a.length) 256,Int.mul_add,Int.mul_assoc]
  omega
theorem lH (n:Nat):(0:Int)<256^n:=Int.pow_pos (by decide)
theorem kJ {m n:Nat} (h:m≤n):(256:Int)^m≤256^n:=by
 obtain ⟨k,rfl⟩:=Nat.le.dest h
 rw [Int.pow_add]
 have:=Int.mul_le_mul_of_nonneg_left (show (1:Int)≤256^k from lH k) (Int.le_of_lt (lH m))
 omega
theorem ei:∀{a:List Int},Dg a→0≤nv a
 | [],_=>Int.le_refl 0
 |x::a,h=>by
  have:=ei (Dg.cons.1 h).2
  have:=(Dg.cons.1 h).1
  rw [nv];omega
theorem vt:∀{a:List Int},Dg a→nv a<256^a.length
 | [],_=>by decide
 |x::a,h=>by
  have:=vt (Dg.cons.1 h).2
  have:=(Dg.cons.1 h).1
  rw [nv,List.length_cons,Int.pow_succ]
  omega
theorem gi (a:List Int) (j:Nat):nv (a.take (j+1))=nv (a.take j)+256^j*a.getD j 0:=by
 by_cases h:j<a.length
 ·rw [List.take_add_one,fH,List.length_take,Nat.min_eq_left (by omega),List.getElem?_eq_getElem h,List.getD_eq_getElem?_getD,List.getElem?_eq_getElem h]
  simp [nv]
 ·rw [List.take_of_length_le (by omega),List.take_of_length_le (by omega),List.getD_eq_getElem?_getD,List.getElem?_eq_none (by omega)]
  simp
theorem m8 (a:List Int) (n:Nat) (h:n≤a.length):nv a=nv (a.take n)+256^n*nv (a.drop n):=by
 conv=>lhs;rw [←List.take_append_drop n a]
 rw [fH,List.length_take,Nat.min_eq_left h]
theorem yL:∀(a:List Int) (k:Nat) (x:Int),k<a.length→nv (a.set k x)=nv a+256^k*(x-a.getD k 0)
 | [],_,_,h=>absurd h (by simp)
 |y::a,0,x,_=>by simp [nv];omega
 |y::a,k+1,x,h=>by
  have ih:=yL a k x (by simpa using h)
  rw [List.set_cons_succ,nv,nv,ih,List.getD_cons_succ,Int.pow_succ,Int.mul_comm (256^k) 256,Int.mul_assoc,Int.mul_add]
  omega
theorem vu:∀n,nv (List.replicate n 0)=0
 |0=>rfl
 |n+1=>by rw [List.replicate_succ,nv,vu n];rfl
theorem qp (n:Nat):Dg (List.replicate n 0):=fun z hz=>by rw [List.eq_of_mem_replicate hz];decide
def Tm:List Int→Prop
 | []=>True
 | [x]=>x≠0
 |_::l=>Tm l
theorem Tm.tail {x:Int} {l:List Int} (h:Tm (x::l)):Tm l:=by
 cases l with
 |nil=>trivial
 |cons y l=>exact h
theorem yM:∀{l:List Int},Dg l→Tm l→l≠[]→0<nv l
 | [],_,_,h=>absurd rfl h
 | [x],d,h,_=>by
  have:=(Dg.cons.1 d).1
  have:x≠0:=h
  simp only [nv];omega
 |x::y::l,d,h,_=>by
  have:=yM (Dg.cons.1 d).2 (Tm.tail h) (by simp)
  have:=(Dg.cons.1 d).1
  rw [nv];omega
theorem Mc:∀{a b:List Int},Dg a→Dg b→Tm a→Tm b→nv a=nv b→a=b
 | [],[],_,_,_,_,_=>rfl
 | [],y::b,_,d,_,t,e=>by
  have:=yM d t (by simp)
  rw [←e] at this
  exact absurd this (by simp [nv])
 |x::a,[],d,_,t,_,e=>by
  have:=yM d t (by simp)
  rw [e] at this
  exact absurd this (by simp [nv])
 |x::a,y::b,d,d',t,t',e=>by
  have h1:=(Dg.cons.1 d).1
  have h2:=(Dg.cons.1 d').1
  rw [nv,nv] at e
  have exy:x=y:=by omega
  have eab:nv a=nv b:=by omega
  rw [exy,Mc (Dg.cons.1 d).2 (Dg.cons.1 d').2 t.tail t'.tail eab]
def A3 (l:List Int):Nat→Nat
 |0=>0
 |n+1=>if l.getD n 0=0 then A3 l n else n+1
def lY (l:List Int):List Int:=l.take (A3 l l.length)
theorem Md (l:List Int):∀n,A3 l n≤n
 |0=>Nat.le_refl 0
 |n+1=>by
  unfold A3
  split
  ·exact Nat.le_succ_of_le (Md l n)
  ·exact Nat.le_refl _
theorem EY:∀{l:List Int},(l≠[]→l.getD (l.length-1) 0≠0)→Tm l
 | [],_=>trivial
 | [x],h=>h (by simp)
 |x::y::l,h=>EY (l:=y::l) fun _=>by
  have:=h (by simp)
  simpa using this
theorem A4 (l:List Int):∀n,A3 l n≠0→l.getD (A3 l n-1) 0≠0
 |0,h=>absurd rfl h
 |n+1,h=>by
  unfold A3 at h ⊢
  split
  ·rename_i q
   rw [if_pos q] at h
   exact A4 l n h
  ·rename_i q
   exact q
theorem A5 (l:List Int):∀n i,A3 l n≤i→i<n→l.getD i 0=0
 |0,i,_,h=>absurd h (by omega)
 |n+1,i,h,hi=>by
  unfold A3 at h
  split at h
  ·rename_i q
   by_cases e:i=n
   ·rw [e];exact q
   ·exact A5 l n i h (by omega)
  ·omega
theorem rE (l:List Int) (n i:Nat) (h:i<n):(l.take n).getD i 0=l.getD i 0:=by
 rw [List.getD_eq_getElem?_getD,List.getD_eq_getElem?_getD,List.getElem?_take_of_lt h]
theorem o6 {l:List Int} (d:Dg l):Dg (lY l)∧Tm (lY l)∧nv (lY l)=nv l:=by
 have hle:=Md l l.length
 refine ⟨d.take _,EY fun h=>?_,?_⟩
 ·have hl:(lY l).length=A3 l l.length:=by unfold lY;rw [List.length_take,Nat.min_eq_left hle]
  have h0:A3 l l.length≠0:=fun q=>h (by unfold lY;rw [q];rfl)
  rw [hl]
  unfold lY
  rw [rE _ _ _ (by omega)]
  exact A4 l _ h0
 ·have key:∀k,A3 l l.length+k≤l.length→nv (l.take (A3 l l.length+k))=nv (lY l):=fun k=>by
   induction k with
   |zero=>intro _;rfl
   |succ k ih=>
    intro h
    rw [←Nat.add_assoc,gi,ih (by omega),A5 l l.length _ (Nat.le_add_right _ k) (by omega)]
    omega
  have:=key (l.length-A3 l l.length) (by omega)
  rw [Nat.add_sub_cancel' hle,List.take_of_length_le (Nat.le_refl _)] at this
  exact this.symm
def cy (a b:List Int):Nat→Int
 |0=>0
 |j+1=>(cy a b j+a.getD j 0+b.getD j 0)/256
def pd (a b:List Int) (j:Nat):Int:=(cy a b j+a.getD j 0+b.getD j 0)%256
def yN (a b:List Int):Nat:=max a.length b.length
def iD (a b:List Int):Nat:=if 0<cy a b (yN a b) then yN a b+1 else yN a b
def iE (a b:List Int):List Int:=(List.range (iD a b)).map (pd a b)
theorem Me {a b:List Int} (da:Dg a) (db:Dg b):∀j,0≤cy a b j∧cy a b j≤1
 |0=>⟨Int.le_refl 0,by show (0:Int)≤1;decide⟩
 |j+1=>by
  have:=Me da db j
  have:=da.getD j
  have:=db.getD j
  rw [cy];omega
theorem ab1 (a b:List Int) (n:Nat):Dg ((List.range n).map (pd a b)):=fun z hz=>by
 obtain ⟨j,_,rfl⟩:=List.mem_map.1 hz
 unfold pd;omega
theorem Mf (a b:List Int):∀j,nv ((List.range j).map (pd a b))+256^j*cy a b j=nv (a.take j)+nv (b.take j)
 |0=>by simp [nv,cy]
 |j+1=>by
  have ih:=Mf a b j
  rw [List.range_succ,List.map_append,fH,List.length_map,List.length_range,gi,gi]
  simp only [List.map_cons,List.map_nil,nv]
  have e:cy a b j+a.getD j 0+b.getD j 0=pd a b j+256*cy a b (j+1):=by rw [cy,pd];omega
  rw [Int.pow_succ,Int.mul_assoc,Int.mul_zero,Int.add_zero]
  have e2:(256:Int)^j*(cy a b j+a.getD j 0+b.getD j 0)=256^j*(pd a b j+256*cy a b (j+1)):=by rw [e]
  simp only [Int.mul_add] at e2
  omega
theorem Mg {a b:List Int} (da:Dg a) (db:Dg b):cy a b (iD a b)=0:=by
 unfold iD
 have h:=Me da db (yN a b)
 split
 ·rw [cy,List.getD_eq_getElem?_getD,List.getElem?_eq_none (by unfold yN;omega),List.getD_eq_getElem?_getD,List.getElem?_eq_none (by unfold yN;omega)]
  simp only [Option.getD_none]
  omega
 ·omega
theorem o7 (a b:List Int):yN a b≤iD a b∧iD a b≤yN a b+1:=by unfold iD;split<;>omega
theorem rF {a b:List Int} (da:Dg a) (db:Dg b):Dg (iE a b)∧nv (iE a b)=nv a+nv b:=by
 refine ⟨ab1 _ _ _,?_⟩
 have h:=Mf a b (iD a b)
 have hm:=o7 a b
 rw [Mg da db,Int.mul_zero,Int.add_zero,List.take_of_length_le (by unfold yN at hm;omega),List.take_of_length_le (by unfold yN at hm;omega)] at h
 exact h
theorem jP (a b:List Int):(iE a b).length=iD a b:=by simp [iE]
def tS (x:Int) (b:List Int) (i j:Nat) (s:List Int×Int):List Int×Int:=
 let n:=s.1.getD (i+j) 0+s.2+x*b.getD j 0
 (s.1.set (i+j) (n%256),n/256)
def tR (x:Int) (b:List Int) (i:Nat) (o:List Int):Nat→List Int×Int
 |0=>(o,0)
 |j+1=>tS x b i j (tR x b i o j)
def qt (x:Int) (b:List Int) (i:Nat) (o:List Int):Nat:=if 0<(tR x b i o b.length).2 then b.length+1 else b.length
def tO (a b:List Int):Nat→List Int
 |0=>List.replicate (a.length+b.length+1) 0
 |i+1=>(tR (a.getD i 0) b i (tO a b i) (qt (a.getD i 0) b i (tO a b i))).1
def sv (a b:List Int):List Int:=tO a b a.length
theorem Mh {x:Int} {b:List Int} {i:Nat} {o:List Int} (hx:0≤x∧x<256) (db:Dg b) (d:Dg o) (hl:i+b.length<o.length):∀j,j≤b.length+1→
  (tR x b i o j).1.length=o.length∧Dg (tR x b i o j).1∧0≤(tR x b i o j).2∧(tR x b i o j).2≤255∧nv (tR x b i o j).1+256^(i+j)*(tR x b i o j).2=nv o+256^i*(x*nv (b.take j))
 |0,_=>⟨rfl,d,Int.le_refl 0,by show (0:Int)≤255;decide,by simp [tR,nv]⟩
 |j+1,hj=>by
  obtain ⟨h1,h2,h3,h4,h5⟩:=Mh hx db d hl j (by omega)
  rw [tR]
  generalize tR x b i o j=s at*
  obtain ⟨l,c⟩:=s
  simp only at h1 h2 h3 h4 h5
  unfold tS
  simp only
  have hb:=db.getD j
  have hc:=h2.getD (i+j)
  have hp0:0≤x*b.getD j 0:=Int.mul_nonneg hx.1 hb.1
  have hp1:x*b.getD j 0≤255*255:=Int.mul_le_mul (by omega) (by omega) hb.1 (by decide)
  refine ⟨by rw [List.length_set,h1],h2.set _ (by omega),by omega,by omega,?_⟩
  rw [yL _ _ _ (by omega),gi, ←Nat.add_assoc,Int.pow_succ]
  have e:l.getD (i+j) 0+c+x*b.getD j 0=(l.getD (i+j) 0+c+x*b.getD j 0)%256+256*((l.getD (i+j) 0+c+x*b.getD j 0)/256):=by omega
  generalize (l.getD (i+j) 0+c+x*b.getD j 0)%256=r at*
  generalize (l.getD (i+j) 0+c+x*b.getD j 0)/256=q at*
  have e1:(256:Int)^(i+j)*(x*b.getD j 0)=256^i*(x*(256^j*b.getD j 0)):=by
   rw [Int.pow_add,Int.mul_assoc]
   congr 1
   rw [←Int.mul_assoc, ←Int.mul_assoc,Int.mul_comm (256^j) x]
  have e2:(256:Int)^(i+j)*(l.getD (i+j) 0+c+x*b.getD j 0)=256^(i+j)*(r+256*q):=by rw [e]
  simp only [Int.mul_add,Int.mul_sub] at e2 h5 ⊢
  rw [e1] at e2
  rw [Int.mul_assoc]
  omega
theorem o8 {a:List Int} (d:Dg a) (n:Nat):nv (a.take n)<256^n:=by
 have h:=vt (d.take n)
 have:(256:Int)^(a.take n).length≤256^n:=kJ (by rw [List.length_take];exact Nat.min_le_left n a.length)
 omega
theorem Mi (x:Int) (b:List Int) (i:Nat) (o:List Int):qt x b i o≤b.length+1∧b.length≤qt x b i o:=by unfold qt;split<;>omega
theorem Mj {a b o:List Int} (da:Dg a) (db:Dg b) {i:Nat} (hi:i<a.length) (h1:o.length=a.length+b.length+1) (h2:Dg o) (h3:nv o=nv (a.take i)*nv b):
  (tR (a.getD i 0) b i o (qt (a.getD i 0) b i o)).1.length=o.length∧Dg (tR (a.getD i 0) b i o (qt (a.getD i 0) b i o)).1∧(tR (a.getD i 0) b i o (qt (a.getD i 0) b i o)).2=0∧nv (tR (a.getD i 0) b i o (qt (a.getD i 0) b i o)).1=nv (a.take (i+1))*nv b:=by
 have hb:=Mi (a.getD i 0) b i o
 obtain ⟨g1,g2,g3,g4,g5⟩:=Mh (i:=i) (da.getD i) db h2 (by omega) (qt (a.getD i 0) b i o) hb.1
 rw [List.take_of_length_le hb.2,h3] at g5
 have hv:nv (a.take i)*nv b+256^i*(a.getD i 0*nv b)=nv (a.take (i+1))*nv b:=by rw [gi,Int.add_mul,Int.mul_assoc]
 rw [hv] at g5
 have hc:(tR (a.getD i 0) b i o (qt (a.getD i 0) b i o)).2=0:=by
  by_cases q:0<(tR (a.getD i 0) b i o b.length).2
  ·have hn:qt (a.getD i 0) b i o=b.length+1:=by unfold qt;rw [if_pos q]
   rw [hn] at g2 g3 g5 ⊢
   have m1:=o8 da (i+1)
   have m2:=vt db
   have m4:=ei db
   have m5:nv (a.take (i+1))*nv b<256^(i+(b.length+1)):=by
    rw [show i+(b.length+1)=(i+1)+b.length by omega,Int.pow_add]
    exact Int.mul_lt_mul' (Int.le_of_lt m1) m2 m4 (lH _)
   have m6:=ei g2
   generalize (tR (a.getD i 0) b i o (b.length+1)).2=c at*
   apply Classical.byContradiction
   intro hc
   have:(256:Int)^(i+(b.length+1))*1≤256^(i+(b.length+1))*c:=Int.mul_le_mul_of_nonneg_left (by omega) (Int.le_of_lt (lH _))
   omega
  ·have hn:qt (a.getD i 0) b i o=b.length:=by unfold qt;rw [if_neg q]
   rw [hn] at g3 ⊢
   omega
 rw [hc,Int.mul_zero,Int.add_zero] at g5
 exact ⟨g1,g2,hc,g5⟩
theorem EZ {a b:List Int} (da:Dg a) (db:Dg b):∀i,i≤a.length→(tO a b i).length=a.length+b.length+1∧Dg (tO a b i)∧nv (tO a b i)=nv (a.take i)*nv b
 |0,_=>⟨by simp [tO],qp _,by rw [tO,vu];simp [nv]⟩
 |i+1,hi=>by
  obtain ⟨h1,h2,h3⟩:=EZ da db i (by omega)
  obtain ⟨g1,g2,_,g4⟩:=Mj da db (by omega) h1 h2 h3
  exact ⟨by rw [tO,g1,h1],g2,g4⟩
theorem yO {a b:List Int} (da:Dg a) (db:Dg b):Dg (sv a b)∧nv (sv a b)=nv a*nv b:=by
 obtain ⟨_,h2,h3⟩:=EZ da db a.length (Nat.le_refl _)
 rw [List.take_of_length_le (Nat.le_refl _)] at h3
 exact ⟨h2,h3⟩
theorem yP {a b:List Int} (da:Dg a) (db:Dg b):(sv a b).length=a.length+b.length+1:=(EZ da db a.length (Nat.le_refl _)).1
def Mk (a:List Int):List Int:=a.take 16++[a.getD 16 0%4]
def Ml (a:List Int) (i:Nat):Int:=a.getD (16+i) 0/4+a.getD (17+i) 0%4*64
def CY (a:List Int):List Int:=(List.range (a.length-16)).map (Ml a)
def WX:List Int→List Int
 | []=>[]
 |x::l=>(x/4+l.getD 0 0%4*64)::WX l
theorem E0:∀{l:List Int},Dg l→Dg (WX l)∧nv (WX l)=nv l/4
 | [],_=>⟨Dg.nil,rfl⟩
 |x::l,d=>by
  obtain ⟨h1,h2⟩:=E0 (Dg.cons.1 d).2
  have hx:=(Dg.cons.1 d).1
  have hy:=(Dg.cons.1 d).2.getD 0
  refine ⟨Dg.cons.2 ⟨by omega,h1⟩,?_⟩
  rw [WX,nv,nv,h2]
  have:nv l%4=l.getD 0 0%4:=by
   cases l with
   |nil=>rfl
   |cons y l=>rw [nv,List.getD_cons_zero];omega
  omega
theorem w7:∀(l:List Int),WX l=(List.range l.length).map fun i=>l.getD i 0/4+l.getD (i+1) 0%4*64
 | []=>rfl
 |x::l=>by
  rw [WX,w7 l,List.length_cons,List.range_succ_eq_map,List.map_cons,List.map_map]
  rfl
theorem iY (l:List Int) (n i:Nat):(l.drop n).getD i 0=l.getD (n+i) 0:=by
 rw [List.getD_eq_getElem?_getD,List.getD_eq_getElem?_getD,List.getElem?_drop]
theorem WY (a:List Int):CY a=WX (a.drop 16):=by
 rw [w7,List.length_drop]
 unfold CY Ml
 refine List.map_congr_left fun i _=>?_
 rw [iY,iY,show 16+(i+1)=17+i by omega]
def Tf (a:List Int):Bool:=decide (17<a.length)||decide (a.length=17∧3<a.getD 16 0)
theorem vv:(256:Int)^16=340282366920938463463374607431768211456:=by decide
theorem E1 (l:List Int):nv l=l.getD 0 0+256*nv (l.drop 1):=by
 cases l with
 |nil=>rfl
 |cons x l=>rfl
theorem E2 {a:List Int} (d:Dg a) (t:Tm a):Tf a=true↔1361129467683753853853498429727072845824≤nv a:=by
 unfold Tf
 rw [Bool.or_eq_true,decide_eq_true_eq,decide_eq_true_eq]
 by_cases h:a.length≤16
 ·have:=vt d
  have e:(256:Int)^a.length≤256^16:=kJ h
  rw [vv] at e
  omega
 ·have hs:=m8 a 16 (by omega)
  have h1:=o8 d 16
  have h2:=ei (d.take 16)
  rw [vv] at hs h1
  have dd:=d.drop 16
  have td:∀(n:Nat) {l:List Int},Tm l→Tm (l.drop n):=fun n=>by
   induction n with
   |zero=>intro l h;exact h
   |succ n ih=>
    intro l h
    cases l with
    |nil=>trivial
    |cons x l=>exact ih h.tail
  have t16:=td 16 t
  have g0:=iY a 16 0
  have hlen:(a.drop 16).length=a.length-16:=List.length_drop ..
  rw [Nat.add_zero] at g0
  generalize a.drop 16=l at*
  match l,hlen with
  | [],hlen=>simp at hlen;omega
  | [x],hlen=>
   simp only [nv,List.getD_cons_zero,List.length_cons,List.length_nil] at*
   omega
  |x::y::l,hlen=>
   have p:=yM (Dg.cons.1 dd).2 t16.tail (by simp)
   have:=(Dg.cons.1 dd).1
   rw [nv] at hs
   simp only [List.length_cons] at hlen
   omega
theorem Tg {a:List Int} (d:Dg a) (h:16<a.length):Dg (Mk a)∧Dg (CY a)∧nv (Mk a)=nv a%1361129467683753853853498429727072845824∧nv (CY a)=nv a/1361129467683753853853498429727072845824:=by
 have hs:=m8 a 16 (by omega)
 have h1:=o8 d 16
 have h2:=ei (d.take 16)
 have dd:=d.drop 16
 have hh:=E1 (a.drop 16)
 have g0:=iY a 16 0
 rw [Nat.add_zero] at g0
 have n0:=ei dd
 have n1:=ei (dd.drop 1)
 have gb:=d.getD 16
 obtain ⟨s1,s2⟩:=E0 dd
 rw [WY,s2]
 refine ⟨(d.take 16).app (Dg.cons.2 ⟨by omega,Dg.nil⟩),s1,?_,?_⟩
 ·unfold Mk
  rw [fH,List.length_take,Nat.min_eq_left (by omega)]
  simp only [nv,Int.mul_zero,Int.add_zero]
  rw [vv] at hs h1 ⊢
  omega
 ·rw [vv] at hs h1
  omega
def E3 (v:Nat):Nat:=if h:v<1361129467683753853853498429727072845824 then v else E3 (v%1361129467683753853853498429727072845824+5*(v/1361129467683753853853498429727072845824))
termination_by v
decreasing_by omega
theorem Mm (v:Nat):E3 v<1361129467683753853853498429727072845824:=by
 induction v using Nat.strongRecOn with
 |ind v ih=>
  rw [E3]
  split
  ·assumption
  ·exact ih _ (by omega)
theorem QE (v:Nat):E3 v%1361129467683753853853498429727072845819=v%1361129467683753853853498429727072845819:=by
 induction v using Nat.strongRecOn with
 |ind v ih=>
  rw [E3]
  split
  ·rfl
  ·rw [ih _ (by omega)]
   omega
def v9 (a:List Int):List Int:=lY (iE (Mk a) (sv (CY a) [5]))
theorem d5:Dg [5]:=Dg.cons.2 ⟨by decide,Dg.nil⟩
theorem WZ {a:List Int} (d:Dg a) (h:16<a.length):Dg (v9 a)∧Tm (v9 a)∧nv (v9 a)=nv a%1361129467683753853853498429727072845824+5*(nv a/1361129467683753853853498429727072845824):=by
 obtain ⟨h1,h2,h3,h4⟩:=Tg d h
 obtain ⟨t1,t2⟩:=yO h2 d5
 obtain ⟨p1,p2⟩:=rF h1 t1
 obtain ⟨q1,q2,q3⟩:=o6 p1
 refine ⟨q1,q2,?_⟩
 unfold v9
 rw [q3,p2,t2,h3,h4]
 simp only [nv]
 omega
noncomputable def Mn (v:Int):List Int:=@dite _ (∃l,Dg l∧Tm l∧nv l=v) (Classical.propDecidable _) (fun h=>Classical.choose h) (fun _=>[])
theorem Mo {l:List Int} (d:Dg l) (t:Tm l):Mn (nv l)=l:=by
 have h:∃m,Dg m∧Tm m∧nv m=nv l:=⟨l,d,t,rfl⟩
 unfold Mn
 rw [dif_pos h]
 obtain ⟨h1,h2,h3⟩:=Classical.choose_spec h
 exact Mc h1 d h2 t h3
theorem QF {l:List Int} (d:Dg l):lY l=Mn (nv l):=by
 obtain ⟨h1,h2,h3⟩:=o6 d
 rw [←h3,Mo h1 h2]
end Go.Proofs.YtibfpjeeanppjaaGreat.R4
end
section
namespace Go.Proofs.YtibfpjeeanppjaaGreat.R4
open Go Go.Sy Sh
abbrev J (n:Int):Int:=IntKind.i64.wrap n
theorem bu {n:Int} (h0:0≤n) (h1:n<1000000000000000):J n=n:=wrap_i64 n (by omega) (by omega)
theorem cT {n:Int} (h:0≤n) (k:Int):n.tmod k=n%k:=Int.tmod_eq_emod_of_nonneg h
theorem dY {n:Int} (h:0≤n) (k:Int):n.tdiv k=n/k:=Int.tdiv_eq_ediv_of_nonneg h
def iH (l:List Int):Bool:=l.all fun z=>decide (0≤z)&&decide (z<256)
theorem bF {l:List Int}:iH l=true↔Dg l:=by
 unfold iH Dg
 rw [List.all_eq_true]
 exact ⟨fun h z hz=>by simpa using h z hz,fun h z hz=>by simpa using h z hz⟩
theorem aU.ab2 {k:Nat} {t:List (Option SV)} {h:List Blk} {o o':Bool} (i:Nat) (f:Bool) (K:IntKind) (hi:t[i]? =some (some (.nl (.slice none 0 0)))):
  aU k ⟨t,h,o⟩ ⟨t.set i (some (.ro f K [])),h,o'⟩:=fun B e w t' _ hl R=>⟨e,rfl,⟨by simpa using hl.1,fun j v v' a c=>by
  rw [List.getElem?_set] at a
  split at a
  ·rename_i q
   subst q
   split at a
   ·simp only [Option.some.injEq] at a
    subst a
    have h1:v'= .slice none 0 0:=hl.2 _ _ v' hi c
    exact .inl ⟨rfl,none,0,h1,fun _=>rfl⟩
   ·cases a
  ·exact hl.2 j v v' a c⟩,R⟩
noncomputable def QG:Code:=aH Tryz.f159
noncomputable def vJ (f:Nat→Option Bool):bK:=mk (P:=Tryz.prog) [] [] f
theorem cH (f:Nat→Option Bool):ag Tryz.prog (vJ f):=ai _ aF.nil _ _
noncomputable def Hp (a b:List Int) (m:Nat) (l:List Int) (c i:Int):St:=⟨slotsOf 54 [(0,.ro false .i64 a),(1,.ro false .i64 b),(5,.sl 0 0 0 1 m m false true),(6,.int .i64 c),(7,.int .i64 i)],[.b [.ints .i64 m l]],true⟩
noncomputable def agB (a b:List Int):St:=⟨slotsOf 54 [(0,.ro false .i64 a),(1,.ro false .i64 b),(5,.nl (.slice none 0 0)),(6,.int .i64 0),(7,.int .i64 0)],[],true⟩
def plA:Nat→Option Bool:=fun i=>if i=12||i=29||i=39||i=50 then some true else none
def agD:Nat→Option Bool:=fun i=>if i=12||i=29||i=50 then some true else if i=39 then some false else none
def agE:Nat→Option Bool:=fun i=>if i=17||i=39||i=50 then some true else if i=12||i=29 then some false else none
def plD:Nat→Option Bool:=fun i=>if i=21||i=50 then some true else if i=12||i=17||i=29||i=39 then some false else none
def plE:Nat→Option Bool:=fun i=>if i=12||i=17||i=21 then some false else none
def dO (ob:Bool) (i:Int) (n:Nat):Bool:=aa (aa (aa ob (decide (i<n))) (cK i n)) (decide (i.toNat<n))
section
variable (a b l:List Int) (m:Nat) (c i:Int)
theorem QH:(az Tryz.prog (vJ plA) 60 0 4 (atoms QG) ⟨aT Tryz.f159.ntmps [.ro false .i64 a,.ro false .i64 b],[],true⟩).bind (St.cut [0,1,5,6,7] 0)=some (agB a b):=by kernel_rfl
theorem agF:(exec Tryz.prog (vJ plA) 60 0 (inner (inner (ak 4 QG))) (Hp a b m l c i)).bind (fun r=>(r.2.cut [0,1,5,6,7] 1).map fun q=>(r.1,q))=
  some (.normal,{Hp a b (m+1) (l++[(J (J (c+a.getD i.toNat 0)+b.getD i.toNat 0)).tmod 256]) (J ((J (J (c+a.getD i.toNat 0)+b.getD i.toNat 0)).tdiv 256)) (J (i+1)) with ob:=aa (dO (dO (aa true (decide (i<a.length))) i a.length) i b.length) (tK l.length m)}):=by kernel_rfl
theorem ab3:(exec Tryz.prog (vJ agD) 60 0 (inner (inner (ak 4 QG))) (Hp a b m l c i)).bind (fun r=>(r.2.cut [0,1,5,6,7] 1).map fun q=>(r.1,q))=
  some (.normal,{Hp a b (m+1) (l++[(J (c+a.getD i.toNat 0)).tmod 256]) (J ((J (c+a.getD i.toNat 0)).tdiv 256)) (J (i+1)) with ob:=aa (aa (dO (aa true (decide (i<a.length))) i a.length) (!decide (i<b.length))) (tK l.length m)}):=by kernel_rfl
theorem ab4:(exec Tryz.prog (vJ agE) 60 0 (inner (inner (ak 4 QG))) (Hp a b m l c i)).bind (fun r=>(r.2.cut [0,1,5,6,7] 1).map fun q=>(r.1,q))=
  some (.normal,{Hp a b (m+1) (l++[(J (c+b.getD i.toNat 0)).tmod 256]) (J ((J (c+b.getD i.toNat 0)).tdiv 256)) (J (i+1)) with ob:=aa (dO (aa (aa (aa true (!decide (i<a.length))) (decide (i<b.length))) (!decide (i<a.length))) i b.length) (tK l.length m)}):=by kernel_rfl
theorem agG:(exec Tryz.prog (vJ plD) 60 0 (inner (inner (ak 4 QG))) (Hp a b m l c i)).bind (fun r=>(r.2.cut [0,1,5,6,7] 1).map fun q=>(r.1,q))=
  some (.normal,{Hp a b (m+1) (l++[c.tmod 256]) (J (c.tdiv 256)) (J (i+1)) with ob:=aa (aa (aa (aa (aa (aa true (!decide (i<a.length))) (!decide (i<b.length))) (decide (c>0))) (!decide (i<a.length))) (!decide (i<b.length))) (tK l.length m)}):=by kernel_rfl
theorem agH:(exec Tryz.prog (vJ plE) 60 0 (inner (inner (ak 4 QG))) (Hp a b m l c i)).bind (fun r=>(r.2.cut [0,1,5,6,7] 1).map fun q=>(r.1,q))=
  some (.exit 0,{Hp a b m l c i with ob:=aa (aa (aa true (!decide (i<a.length))) (!decide (i<b.length))) (!decide (c>0))}):=by kernel_rfl
end
theorem lI {ob:Bool} {j n:Nat} (h1:ob=true) (h:j<n):dO ob j n=true:=by
 unfold dO
 rw [h1,decide_eq_true (show (j:Int)<n by omega),aK (by omega) (by omega),decide_eq_true (show ((j:Int)).toNat<n by omega)];rfl
theorem kK {l:List Int} {i:Nat} (h:l.length≤i):l.getD i 0=0:=by rw [List.getD_eq_getElem?_getD,List.getElem?_eq_none h];rfl
noncomputable def QI (a b:List Int) (j:Nat):St:=Hp a b j ((List.range j).map (pd a b)) (cy a b j) j
theorem qu {a b:List Int} {j:Nat} {x c i:Int} (hx:x=pd a b j) (hc:c=cy a b (j+1)) (hi:i=((j+1:Nat):Int)):
  aU 0 (Hp a b (j+1) ((List.range j).map (pd a b)++[x]) c i) (QI a b (j+1)):=by
 subst hx hc hi
 refine aU.same rfl ?_
 show [Blk.b [SV.ints .i64 (j+1) ((List.range j).map (pd a b)++[pd a b j])]]=[Blk.b [SV.ints .i64 (j+1) ((List.range (j+1)).map (pd a b))]]
 rw [List.range_succ,List.map_append];rfl
theorem QJ {a b:List Int} (da:Dg a) (db:Dg b) (ha:a.length<1000000) (hb:b.length<1000000) {j:Nat} (hj:j<iD a b):Tr Tryz.prog none 0 (inner (inner (ak 4 QG))) (QI a b j) .normal (QI a b (j+1)):=by
 have hl:((List.range j).map (pd a b)).length=j:=by simp
 have hm:=(o7 a b).2
 have hm':yN a b=max a.length b.length:=rfl
 have hc:=Me da db j
 have h1:=da.getD j
 have h2:=db.getD j
 have hJ:J ((j:Int)+1)=((j+1:Nat):Int):=by rw [bu (by omega) (by omega)];rfl
 have hap:tK ((List.range j).map (pd a b)).length j=true:=by rw [hl];exact cr (by omega)
 by_cases ia:j<a.length
 ·by_cases ib:j<b.length
  ·have e:=agF a b ((List.range j).map (pd a b)) j (cy a b j) j
   rw [Int.toNat_natCast,bu (n:=cy a b j+a.getD j 0) (by omega) (by omega),bu (n:=cy a b j+a.getD j 0+b.getD j 0) (by omega) (by omega),cT (by omega),dY (by omega),bu (by omega) (by omega),hJ] at e
   refine Tr.post (Tr.cut (cH _) 60 _ 1 (by omega) e ?_) (qu rfl rfl rfl)
   show aa _ _=true
   rw [hap,lI (lI (by rw [decide_eq_true (show (j:Int)<a.length by omega)];rfl) ia) ib];rfl
  ·have e:=ab3 a b ((List.range j).map (pd a b)) j (cy a b j) j
   rw [Int.toNat_natCast,bu (n:=cy a b j+a.getD j 0) (by omega) (by omega),cT (by omega),dY (by omega),bu (by omega) (by omega),hJ] at e
   have z:=kK (l:=b) (i:=j) (by omega)
   refine Tr.post (Tr.cut (cH _) 60 _ 1 (by omega) e ?_) (qu (by unfold pd;rw [z,Int.add_zero]) (by rw [cy,z,Int.add_zero]) rfl)
   show aa (aa _ _) _=true
   rw [hap,lI (by rw [decide_eq_true (show (j:Int)<a.length by omega)];rfl) ia,decide_eq_false (show ¬(j:Int)<b.length by omega)];rfl
 ·have z:=kK (l:=a) (i:=j) (by omega)
  by_cases ib:j<b.length
  ·have e:=ab4 a b ((List.range j).map (pd a b)) j (cy a b j) j
   rw [Int.toNat_natCast,bu (n:=cy a b j+b.getD j 0) (by omega) (by omega),cT (by omega),dY (by omega),bu (by omega) (by omega),hJ] at e
   refine Tr.post (Tr.cut (cH _) 60 _ 1 (by omega) e ?_) (qu (by unfold pd;rw [z,Int.add_zero]) (by rw [cy,z,Int.add_zero]) rfl)
   show aa _ _=true
   rw [hap,lI (by rw [decide_eq_false (show ¬(j:Int)<a.length by omega),decide_eq_true (show (j:Int)<b.length by omega)];rfl) ib];rfl
  ·have z':=kK (l:=b) (i:=j) (by omega)
   have hp:0<cy a b j:=by
    unfold iD at hj
    split at hj
    ·rename_i q
     have:j=yN a b:=by omega
     rw [this];exact q
    ·omega
   have e:=agG a b ((List.range j).map (pd a b)) j (cy a b j) j
   rw [cT (by omega),dY (by omega),bu (by omega) (by omega),hJ] at e
   refine Tr.post (Tr.cut (cH _) 60 _ 1 (by omega) e ?_) (qu (by unfold pd;rw [z,z',Int.add_zero,Int.add_zero]) (by rw [cy,z,z',Int.add_zero,Int.add_zero]) rfl)
   show aa _ _=true
   rw [hap,decide_eq_false (show ¬(j:Int)<a.length by omega),decide_eq_false (show ¬(j:Int)<b.length by omega),decide_eq_true (show cy a b j>0 by omega)];rfl
theorem E4 {a b:List Int} (da:Dg a) (db:Dg b) (ha:a.length<1000000) (hb:b.length<1000000):
  aj Tryz.prog 159 [.ro false .i64 a,.ro false .i64 b] [] (.sl 0 0 0 1 (iD a b) (iD a b) false true) [.b [.ints .i64 (iD a b) (iE a b)]]:=by
 have hm:=o7 a b
 have hm':yN a b=max a.length b.length:=rfl
 have bS:Tr Tryz.prog none 0 (ak 4 QG) (QI a b 0) .normal (QI a b (iD a b)):=by
  refine Tr.loop (P:=Tryz.prog) (ro:=none) (k:=0) 0 (c:=ak 4 QG) (by kernel_rfl) (QI a b) (iD a b) (s':=QI a b (iD a b)) (fun j hj=>QJ da db ha hb hj) ?_
  have e:=agH a b ((List.range (iD a b)).map (pd a b)) (iD a b) (cy a b (iD a b)) (iD a b)
  rw [decide_eq_false (show ¬((iD a b:Nat):Int)<a.length by omega),decide_eq_false (show ¬((iD a b:Nat):Int)<b.length by omega),decide_eq_false (show ¬cy a b (iD a b)>0 by rw [Mg da db];decide)] at e
  exact Tr.cut (cH _) 60 _ 1 (by omega) e rfl
 refine aj.cg (cH plA) 60 5 1 Tryz.func159 (by simp) rfl (fun s' x h=>?_) (s:=QI a b (iD a b)) (p:=true) (by kernel_rfl) rfl rfl rfl
 refine aG.items (cH plA) 60 4 _ 0 (by simp) (QH a b) rfl (by decide) ?_
 exact aG.pre (s1:=QI a b 0) (aG.item 4 (by decide) bS h) ((aU.nothing 5 .i64 false true rfl).trans (aU.same rfl rfl)) (by decide)
theorem Mp {a b:List Int} (da:Dg a) (db:Dg b) (ha:a.length<1000000) (hb:b.length<1000000):
  aj Tryz.prog 159 [.ro false .i64 a,.ro false .i64 b] [] (.ro true .i64 (iE a b)) []:=
 aj.frozen (N:=iD a b) (ex:=false) (wh:=true) (E4 da db ha hb) (jP a b)
def Th:List SV→Option (SV×List Blk×Bool)
 | [.ro false .i64 a,.ro false .i64 b]=>some (.sl 0 0 0 1 (iD a b) (iD a b) false true,[.b [.ints .i64 (iD a b) (iE a b)]],iH a&&iH b&&decide (a.length<1000000)&&decide (b.length<1000000))
 |_=>none
noncomputable def ab5:Entry Tryz.prog:=.val 159 _ Tryz.func159 (by decide) rfl true 1 Th fun vs v new e=>by
 unfold Th at e
 split at e
 ·simp only [Option.some.injEq,Prod.mk.injEq,Bool.and_eq_true,decide_eq_true_eq,bF] at e
  obtain ⟨rfl,rfl,⟨⟨h1,h2⟩,h3⟩,h4⟩:=e
  exact E4 h1 h2 h3 h4
 ·cases e
def Mq:List SV→Option (SV×List Blk×Bool)
 | [.ro false .i64 a,.ro false .i64 b]=>some (.ro true .i64 (iE a b),[],iH a&&iH b&&decide (a.length<1000000)&&decide (b.length<1000000))
 |_=>none
noncomputable def Mr:Entry Tryz.prog:=.val 159 _ Tryz.func159 (by decide) rfl true 0 Mq fun vs v new e=>by
 unfold Mq at e
 split at e
 ·simp only [Option.some.injEq,Prod.mk.injEq,Bool.and_eq_true,decide_eq_true_eq,bF] at e
  obtain ⟨rfl,rfl,⟨⟨h1,h2⟩,h3⟩,h4⟩:=e
  exact Mp h1 h2 h3 h4
 ·cases e
end Go.Proofs.YtibfpjeeanppjaaGreat.R4
end
section
namespace Go.Proofs.YtibfpjeeanppjaaGreat.R4
open Go Go.Sy Sh
noncomputable def tmB:Code:=aH Tryz.f157
noncomputable def NH (a:List Int):St:=⟨slotsOf 21 [(0,.ro false .i64 a)],[],true⟩
def tmA:Nat→Option Bool:=fun i=>if i=5||i=13 then some true else none
def tmF:Nat→Option Bool:=fun i=>if i=5 then some true else if i=13 then some false else none
def tmZ:Nat→Option Bool:=fun i=>if i=5 then some false else none
def QK (a:List Int):Int:=J ((a.length:Int)-1)
def tmO (a:List Int):Bool:=aa (aa (aa true (decide ((a.length:Int)>0))) (cK (QK a) a.length)) (decide ((QK a).toNat<a.length))
section
variable (a:List Int)
theorem QL:(az Tryz.prog (vJ tmA) 60 0 1 (atoms tmB) ⟨aT Tryz.f157.ntmps [.ro false .i64 a],[],true⟩).bind (St.cut [0] 0)=some (NH a):=by kernel_rfl
theorem W3:(exec Tryz.prog (vJ tmA) 60 0 (inner (inner (ak 1 tmB))) (NH a)).bind (fun r=>(r.2.cut [0] 0).map fun q=>(r.1,q))=
  some (.normal,{NH (a.take (QK a).toNat) with ob:=aa (aa (tmO a) (a.getD (QK a).toNat 0==0)) (aa true (decide (0≤QK a)&&decide (QK a≤(a.length:Int))))}):=by kernel_rfl
theorem W5:(exec Tryz.prog (vJ tmF) 60 0 (inner (inner (ak 1 tmB))) (NH a)).bind (fun r=>(r.2.cut [0] 0).map fun q=>(r.1,q))=
  some (.exit 0,{NH a with ob:=aa (tmO a) (!(a.getD (QK a).toNat 0==0))}):=by kernel_rfl
theorem QM:(exec Tryz.prog (vJ tmZ) 60 0 (inner (inner (ak 1 tmB))) (NH a)).bind (fun r=>(r.2.cut [0] 0).map fun q=>(r.1,q))=
  some (.exit 0,{NH a with ob:=aa true (!decide ((a.length:Int)>0))}):=by kernel_rfl
end
theorem E5 (a:List Int):∀n,n≤a.length→a.length<1000000→dy Tryz.prog none 0 (inner (inner (ak 1 tmB))) (NH (a.take n)) (.exit 0) (NH (a.take (A3 a n)))
 |0,_,_=>by
  have e:=QM (a.take 0)
  exact dy.leave (Tr.cut (k:=0) (cH tmZ) 60 _ 0 (Nat.le_refl _) e rfl) (by simp)
 |n+1,h,hb=>by
  have hl:(a.take (n+1)).length=n+1:=by rw [List.length_take];omega
  have hI:QK (a.take (n+1))=(n:Int):=by unfold QK;rw [hl,bu (by omega) (by omega)];omega
  have hO:tmO (a.take (n+1))=true:=by
   unfold tmO
   rw [hI,hl,aK (by omega) (by omega),decide_eq_true (show (((n+1:Nat):Int))>0 by omega),Int.toNat_natCast,decide_eq_true (show n<n+1 by omega)];rfl
  have hg:(a.take (n+1)).getD n 0=a.getD n 0:=rE a _ _ (by omega)
  by_cases q:a.getD n 0=0
  ·have e:=W3 (a.take (n+1))
   rw [hO,hI,hl,Int.toNat_natCast,hg,q,List.take_take,Nat.min_eq_left (by omega),decide_eq_true (show (0:Int)≤n by omega),decide_eq_true (show (n:Int)≤((n+1:Nat):Int) by omega)] at e
   have ih:=E5 a n (by omega) hb
   unfold A3
   rw [if_pos q]
   exact dy.step (Tr.cut (k:=0) (cH tmA) 60 _ 0 (Nat.le_refl _) e rfl) ih
  ·have e:=W5 (a.take (n+1))
   rw [hO,hI,Int.toNat_natCast,hg,beq_false_of_ne q] at e
   unfold A3
   rw [if_neg q]
   exact dy.leave (Tr.cut (k:=0) (cH tmF) 60 _ 0 (Nat.le_refl _) e rfl) (by simp)
theorem QN {a:List Int} (ha:a.length<1000000):aj Tryz.prog 157 [.ro false .i64 a] [] (.ro false .i64 (lY a)) []:=by
 have hl:=E5 a a.length (Nat.le_refl _) ha
 rw [List.take_of_length_le (Nat.le_refl _)] at hl
 refine aj.cg (cH tmA) 60 2 0 Tryz.func157 (by simp) rfl (fun s' x h=>?_) (s:=NH (lY a)) (p:=true) (by kernel_rfl) rfl rfl rfl
 refine aG.items (cH tmA) 60 1 _ 0 (by simp) (QL a) rfl (by decide) ?_
 exact aG.item 1 (by decide) (Tr.jt 0 (by kernel_rfl) hl) h
def Ti:List SV→Option (SV×List Blk×Bool)
 | [.ro false .i64 a]=>some (.ro false .i64 (lY a),[],decide (a.length<1000000))
 |_=>none
noncomputable def Tj:Entry Tryz.prog:=.val 157 _ Tryz.func157 (by decide) rfl false 0 Ti fun vs v new e=>by
 unfold Ti at e
 split at e
 ·simp only [Option.some.injEq,Prod.mk.injEq,decide_eq_true_eq] at e
  obtain ⟨rfl,rfl,h⟩:=e
  exact QN h
 ·cases e
noncomputable def nuB:Code:=aH Tryz.f155
def nuA (b:Bool):Nat→Option Bool:=fun i=>if i=8 then some b else if i=18 then some true else none
noncomputable def NI (a:List Int) (m:Nat) (l:List Int) (i:Int):St:=⟨slotsOf 20 [(0,.ro false .u8 a),(3,.sl 0 0 0 1 m m false true),(4,.int .i64 i)],[.b [.ints .i64 m l]],true⟩
noncomputable def agI (a:List Int):St:=⟨slotsOf 20 [(0,.ro false .u8 a),(3,.nl (.slice none 0 0)),(4,.int .i64 0)],[],true⟩
section
variable (a l:List Int) (m:Nat) (i:Int)
theorem QO:(az Tryz.prog (vJ (nuA true)) 60 0 3 (atoms nuB) ⟨aT Tryz.f155.ntmps [.ro false .u8 a],[],true⟩).bind (St.cut [0,3,4] 0)=some (agI a):=by kernel_rfl
theorem W6:(exec Tryz.prog (vJ (nuA true)) 60 0 (inner (inner (ak 3 nuB))) (NI a m l i)).bind (fun r=>(r.2.cut [0,3,4] 1).map fun q=>(r.1,q))=
  some (.normal,{NI a (m+1) (l++[J (a.getD i.toNat 0)]) (J (i+1)) with ob:=aa (dO true i a.length) (tK l.length m)}):=by kernel_rfl
theorem W7:(exec Tryz.prog (vJ (nuA false)) 60 0 (inner (inner (ak 3 nuB))) (NI a m l i)).bind (fun r=>(r.2.cut [0,3,4] 1).map fun q=>(r.1,q))=
  some (.exit 0,{NI a m l i with ob:=aa true (!decide (i<a.length))}):=by kernel_rfl
end
theorem vw {a:List Int} {j:Nat} (h:j<a.length):a.take (j+1)=a.take j++[a.getD j 0]:=by
 rw [List.take_add_one,List.getElem?_eq_getElem h,List.getD_eq_getElem?_getD,List.getElem?_eq_getElem h];rfl
theorem CZ {a:List Int} (d:Dg a) (ha:a.length<1000000):aj Tryz.prog 155 [.ro false .u8 a] [] (.sl 0 0 0 1 a.length a.length false true) [.b [.ints .i64 a.length a]]:=by
 have bS:Tr Tryz.prog none 0 (ak 3 nuB) (NI a 0 [] 0) .normal (NI a a.length a a.length):=by
  have key:=Tr.loop (P:=Tryz.prog) (ro:=none) (k:=0) 0 (c:=ak 3 nuB) (by kernel_rfl) (fun j:Nat=>NI a j (a.take j) j) a.length (s':=NI a a.length a a.length) (fun j hj=>?_) ?_
  ·exact key
  ·have e:=W6 a (a.take j) j j
   have hd:=d.getD j
   have hl:(a.take j).length=j:=by rw [List.length_take];omega
   rw [hl,cr (by omega),lI rfl hj,Int.toNat_natCast,bu hd.1 (by omega),bu (n:=(j:Int)+1) (by omega) (by omega), ←vw hj] at e
   exact Tr.post (Tr.cut (cH _) 60 _ 1 (by omega) e rfl) (aU.same rfl rfl)
  ·have e:=W7 a a a.length a.length
   rw [decide_eq_false (show ¬((a.length:Int)<a.length) by omega)] at e
   refine Tr.pre (Tr.cut (cH _) 60 _ 1 (by omega) e rfl) ?_
   rw [List.take_of_length_le (Nat.le_refl _)]
   exact aU.refl _ _
 refine aj.cg (cH (nuA true)) 60 4 1 Tryz.func155 (by simp) rfl (fun s' x h=>?_) (s:=NI a a.length a a.length) (p:=true) (by kernel_rfl) rfl rfl rfl
 refine aG.items (cH (nuA true)) 60 3 _ 0 (by simp) (QO a) rfl (by decide) ?_
 exact aG.pre (s1:=NI a 0 [] 0) (aG.item 3 (by decide) bS h) ((aU.nothing 3 .i64 false true rfl).trans (aU.same rfl rfl)) (by decide)
def A6:List SV→Option (SV×List Blk×Bool)
 | [.ro false .u8 a]=>some (.sl 0 0 0 1 a.length a.length false true,[.b [.ints .i64 a.length a]],iH a&&decide (a.length<1000000))
 |_=>none
noncomputable def Ms:Entry Tryz.prog:=.val 155 _ Tryz.func155 (by decide) rfl true 1 A6 fun vs v new e=>by
 unfold A6 at e
 split at e
 ·simp only [Option.some.injEq,Prod.mk.injEq,Bool.and_eq_true,decide_eq_true_eq,bF] at e
  obtain ⟨rfl,rfl,h1,h2⟩:=e
  exact CZ h1 h2
 ·cases e
end Go.Proofs.YtibfpjeeanppjaaGreat.R4
end
