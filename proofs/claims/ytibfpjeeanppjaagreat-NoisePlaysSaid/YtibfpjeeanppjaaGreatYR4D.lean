/- This file holds the texts R4A, R4C, R4D, a section each. No conditions beyond those in the theorems. -/
import Derived.Test.YtibfpjeeanppjaaGreatYR3E
set_option linter.all false
set_option maxRecDepth 100000
section
namespace Go.Proofs.YtibfpjeeanppjaaGreat.R4
open Go Go.Sy Sh
def nv:List Int→Int
 | []=>0
 |x::l=>x+256*nv l
def Dg (l:List Int):Prop:=∀z∈l,0≤z∧z<256
theorem Dg.nil:Dg []:=fun _ h=>by cases h
theorem Dg.cons {x:Int} {l:List Int}:Dg (x::l)↔(0≤x∧x<256)∧Dg l:=
 ⟨fun h=>⟨h x (List.mem_cons_self ..),fun z hz=>h z (List.mem_cons_of_mem _ hz)⟩,fun h z hz=>by
  rcases List.mem_cons.1 hz with rfl|q
  ·exact h.1
  ·exact h.2 z q⟩
theorem Dg.app {a b:List Int} (h:Dg a) (g:Dg b):Dg (a++b):=fun z hz=>by
 rcases List.mem_append.1 hz with q|q
 ·exact h z q
 ·exact g z q
theorem Dg.take {a:List Int} (h:Dg a) (n:Nat):Dg (a.take n):=fun z hz=>h z (List.mem_of_mem_take hz)
theorem Dg.drop {a:List Int} (h:Dg a) (n:Nat):Dg (a.drop n):=fun z hz=>h z (List.mem_of_mem_drop hz)
theorem Dg.getD {a:List Int} (h:Dg a) (i:Nat):0≤a.getD i 0∧a.getD i 0<256:=by
 rw [List.getD_eq_getElem?_getD]
 cases e:a[i]? with
 |none=>exact ⟨by decide,by decide⟩
 |some x=>exact h x (List.mem_of_getElem? e)
theorem Dg.set {a:List Int} (h:Dg a) (i:Nat) {x:Int} (hx:0≤x∧x<256):Dg (a.set i x):=fun z hz=>by
 rcases List.mem_or_eq_of_mem_set hz with q|rfl
 ·exact h z q
 ·exact hx
theorem fW:∀(a b:List Int),nv (a++b)=nv a+256^a.length*nv b
 | [],b=>by simp [nv]
 |x::a,b=>by
  rw [List.cons_append,nv,nv,fW a b,List.length_cons,Int.pow_succ,Int.mul_comm (256^a.length) 256,Int.mul_add,Int.mul_assoc]
  omega
theorem mH (n:Nat):(0:Int)<256^n:=Int.pow_pos (by decide)
theorem lF {m n:Nat} (h:m≤n):(256:Int)^m≤256^n:=by
 obtain ⟨k,rfl⟩:=Nat.le.dest h
 rw [Int.pow_add]
 have:=Int.mul_le_mul_of_nonneg_left (show (1:Int)≤256^k from mH k) (Int.le_of_lt (mH m))
 omega
theorem eD:∀{a:List Int},Dg a→0≤nv a
 | [],_=>Int.le_refl 0
 |x::a,h=>by
  have:=eD (Dg.cons.1 h).2
  have:=(Dg.cons.1 h).1
  rw [nv];omega
theorem xz:∀{a:List Int},Dg a→nv a<256^a.length
 | [],_=>by decide
 |x::a,h=>by
  have:=xz (Dg.cons.1 h).2
  have:=(Dg.cons.1 h).1
  rw [nv,List.length_cons,Int.pow_succ]
  omega
theorem gL (a:List Int) (j:Nat):nv (a.take (j+1))=nv (a.take j)+256^j*a.getD j 0:=by
 by_cases h:j<a.length
 ·rw [List.take_add_one,fW,List.length_take,Nat.min_eq_left (by omega),List.getElem?_eq_getElem h,List.getD_eq_getElem?_getD,List.getElem?_eq_getElem h]
  simp [nv]
 ·rw [List.take_of_length_le (by omega),List.take_of_length_le (by omega),List.getD_eq_getElem?_getD,List.getElem?_eq_none (by omega)]
  simp
theorem ou (a:List Int) (n:Nat) (h:n≤a.length):nv a=nv (a.take n)+256^n*nv (a.drop n):=by
 conv=>lhs;rw [←List.take_append_drop n a]
 rw [fW,List.length_take,Nat.min_eq_left h]
theorem AO:∀(a:List Int) (k:Nat) (x:Int),k<a.length→nv (a.set k x)=nv a+256^k*(x-a.getD k 0)
 | [],_,_,h=>absurd h (by simp)
 |y::a,0,x,_=>by simp [nv];omega
 |y::a,k+1,x,h=>by
  have ih:=AO a k x (by simpa using h)
  rw [List.set_cons_succ,nv,nv,ih,List.getD_cons_succ,Int.pow_succ,Int.mul_comm (256^k) 256,Int.mul_assoc,Int.mul_add]
  omega
theorem xA:∀n,nv (List.replicate n 0)=0
 |0=>rfl
 |n+1=>by rw [List.replicate_succ,nv,xA n];rfl
theorem rZ (n:Nat):Dg (List.replicate n 0):=fun z hz=>by rw [List.eq_of_mem_replicate hz];decide
def Tm:List Int→Prop
 | []=>True
 | [x]=>x≠0
 |_::l=>Tm l
theorem Tm.tail {x:Int} {l:List Int} (h:Tm (x::l)):Tm l:=by
 cases l with
 |nil=>trivial
 |cons y l=>exact h
theorem AP:∀{l:List Int},Dg l→Tm l→l≠[]→0<nv l
 | [],_,_,h=>absurd rfl h
 | [x],d,h,_=>by
  have:=(Dg.cons.1 d).1
  have:x≠0:=h
  simp only [nv];omega
 |x::y::l,d,h,_=>by
  have:=AP (Dg.cons.1 d).2 (Tm.tail h) (by simp)
  have:=(Dg.cons.1 d).1
  rw [nv];omega
theorem Ot:∀{a b:List Int},Dg a→Dg b→Tm a→Tm b→nv a=nv b→a=b
 | [],[],_,_,_,_,_=>rfl
 | [],y::b,_,d,_,t,e=>by
  have:=AP d t (by simp)
  rw [←e] at this
  exact absurd this (by simp [nv])
 |x::a,[],d,_,t,_,e=>by
  have:=AP d t (by simp)
  rw [e] at this
  exact absurd this (by simp [nv])
 |x::a,y::b,d,d',t,t',e=>by
  have h1:=(Dg.cons.1 d).1
  have h2:=(Dg.cons.1 d').1
  rw [nv,nv] at e
  have exy:x=y:=by omega
  have eab:nv a=nv b:=by omega
  rw [exy,Ot (Dg.cons.1 d).2 (Dg.cons.1 d').2 t.tail t'.tail eab]
def Dd (l:List Int):Nat→Nat
 |0=>0
 |n+1=>if l.getD n 0=0 then Dd l n else n+1
def m8 (l:List Int):List Int:=l.take (Dd l l.length)
theorem Ou (l:List Int):∀n,Dd l n≤n
 |0=>Nat.le_refl 0
 |n+1=>by
  unfold Dd
  split
  ·exact Nat.le_succ_of_le (Ou l n)
  ·exact Nat.le_refl _
theorem HA:∀{l:List Int},(l≠[]→l.getD (l.length-1) 0≠0)→Tm l
 | [],_=>trivial
 | [x],h=>h (by simp)
 |x::y::l,h=>HA (l:=y::l) fun _=>by
  have:=h (by simp)
  simpa using this
theorem De (l:List Int):∀n,Dd l n≠0→l.getD (Dd l n-1) 0≠0
 |0,h=>absurd rfl h
 |n+1,h=>by
  unfold Dd at h ⊢
  split
  ·rename_i q
   rw [if_pos q] at h
   exact De l n h
  ·rename_i q
   exact q
theorem Df (l:List Int):∀n i,Dd l n≤i→i<n→l.getD i 0=0
 |0,i,_,h=>absurd h (by omega)
 |n+1,i,h,hi=>by
  unfold Dd at h
  split at h
  ·rename_i q
   by_cases e:i=n
   ·rw [e];exact q
   ·exact Df l n i h (by omega)
  ·omega
theorem tn (l:List Int) (n i:Nat) (h:i<n):(l.take n).getD i 0=l.getD i 0:=by
 rw [List.getD_eq_getElem?_getD,List.getD_eq_getElem?_getD,List.getElem?_take_of_lt h]
theorem qk {l:List Int} (d:Dg l):Dg (m8 l)∧Tm (m8 l)∧nv (m8 l)=nv l:=by
 have hle:=Ou l l.length
 refine ⟨d.take _,HA fun h=>?_,?_⟩
 ·have hl:(m8 l).length=Dd l l.length:=by unfold m8;rw [List.length_take,Nat.min_eq_left hle]
  have h0:Dd l l.length≠0:=fun q=>h (by unfold m8;rw [q];rfl)
  rw [hl]
  unfold m8
  rw [tn _ _ _ (by omega)]
  exact De l _ h0
 ·have key:∀k,Dd l l.length+k≤l.length→nv (l.take (Dd l l.length+k))=nv (m8 l):=fun k=>by
   induction k with
   |zero=>intro _;rfl
   |succ k ih=>
    intro h
    rw [←Nat.add_assoc,gL,ih (by omega),Df l l.length _ (Nat.le_add_right _ k) (by omega)]
    omega
  have:=key (l.length-Dd l l.length) (by omega)
  rw [Nat.add_sub_cancel' hle,List.take_of_length_le (Nat.le_refl _)] at this
  exact this.symm
def cy (a b:List Int):Nat→Int
 |0=>0
 |j+1=>(cy a b j+a.getD j 0+b.getD j 0)/256
def pd (a b:List Int) (j:Nat):Int:=(cy a b j+a.getD j 0+b.getD j 0)%256
def AQ (a b:List Int):Nat:=max a.length b.length
def jd (a b:List Int):Nat:=if 0<cy a b (AQ a b) then AQ a b+1 else AQ a b
def je (a b:List Int):List Int:=(List.range (jd a b)).map (pd a b)
theorem Ov {a b:List Int} (da:Dg a) (db:Dg b):∀j,0≤cy a b j∧cy a b j≤1
 |0=>⟨Int.le_refl 0,by show (0:Int)≤1;decide⟩
 |j+1=>by
  have:=Ov da db j
  have:=da.getD j
  have:=db.getD j
  rw [cy];omega
theorem afH (a b:List Int) (n:Nat):Dg ((List.range n).map (pd a b)):=fun z hz=>by
 obtain ⟨j,_,rfl⟩:=List.mem_map.1 hz
 unfold pd;omega
theorem Ow (a b:List Int):∀j,nv ((List.range j).map (pd a b))+256^j*cy a b j=nv (a.take j)+nv (b.take j)
 |0=>by simp [nv,cy]
 |j+1=>by
  have ih:=Ow a b j
  rw [List.range_succ,List.map_append,fW,List.length_map,List.length_range,gL,gL]
  simp only [List.map_cons,List.map_nil,nv]
  have e:cy a b j+a.getD j 0+b.getD j 0=pd a b j+256*cy a b (j+1):=by rw [cy,pd];omega
  rw [Int.pow_succ,Int.mul_assoc,Int.mul_zero,Int.add_zero]
  have e2:(256:Int)^j*(cy a b j+a.getD j 0+b.getD j 0)=256^j*(pd a b j+256*cy a b (j+1)):=by rw [e]
  simp only [Int.mul_add] at e2
  omega
theorem Ox {a b:List Int} (da:Dg a) (db:Dg b):cy a b (jd a b)=0:=by
 unfold jd
 have h:=Ov da db (AQ a b)
 split
 ·rw [cy,List.getD_eq_getElem?_getD,List.getElem?_eq_none (by unfold AQ;omega),List.getD_eq_getElem?_getD,List.getElem?_eq_none (by unfold AQ;omega)]
  simp only [Option.getD_none]
  omega
 ·omega
theorem ql (a b:List Int):AQ a b≤jd a b∧jd a b≤AQ a b+1:=by unfold jd;split<;>omega
theorem tq {a b:List Int} (da:Dg a) (db:Dg b):Dg (je a b)∧nv (je a b)=nv a+nv b:=by
 refine ⟨afH _ _ _,?_⟩
 have h:=Ow a b (jd a b)
 have hm:=ql a b
 rw [Ox da db,Int.mul_zero,Int.add_zero,List.take_of_length_le (by unfold AQ at hm;omega),List.take_of_length_le (by unfold AQ at hm;omega)] at h
 exact h
theorem j7 (a b:List Int):(je a b).length=jd a b:=by simp [je]
def tS (x:Int) (b:List Int) (i j:Nat) (s:List Int×Int):List Int×Int:=
 let n:=s.1.getD (i+j) 0+s.2+x*b.getD j 0
 (s.1.set (i+j) (n%256),n/256)
def tR (x:Int) (b:List Int) (i:Nat) (o:List Int):Nat→List Int×Int
 |0=>(o,0)
 |j+1=>tS x b i j (tR x b i o j)
def r6 (x:Int) (b:List Int) (i:Nat) (o:List Int):Nat:=if 0<(tR x b i o b.length).2 then b.length+1 else b.length
def tO (a b:List Int):Nat→List Int
 |0=>List.replicate (a.length+b.length+1) 0
 |i+1=>(tR (a.getD i 0) b i (tO a b i) (r6 (a.getD i 0) b i (tO a b i))).1
def uj (a b:List Int):List Int:=tO a b a.length
theorem Oy {x:Int} {b:List Int} {i:Nat} {o:List Int} (hx:0≤x∧x<256) (db:Dg b) (d:Dg o) (hl:i+b.length<o.length):∀j,j≤b.length+1→
  (tR x b i o j).1.length=o.length∧Dg (tR x b i o j).1∧0≤(tR x b i o j).2∧(tR x b i o j).2≤255∧nv (tR x b i o j).1+256^(i+j)*(tR x b i o j).2=nv o+256^i*(x*nv (b.take j))
 |0,_=>⟨rfl,d,Int.le_refl 0,by show (0:Int)≤255;decide,by simp [tR,nv]⟩
 |j+1,hj=>by
  obtain ⟨h1,h2,h3,h4,h5⟩:=Oy hx db d hl j (by omega)
  rw [tR]
  generalize tR x b i o j=s at*
  obtain ⟨l,c⟩:=s
  simp only at h1 h2 h3 h4 h5
  unfold tS
  simp only
  have hb:=db.getD j
  have hc:=h2.getD (i+j)
  have hp0:0≤x*b.getD j 0:=Int.mul_nonneg hx.1 hb.1
  have hp1:x*b.getD j 0≤255*255:=Int.mul_le_mul (by omega) (by omega) hb.1 (by decide)
  refine ⟨by rw [List.length_set,h1],h2.set _ (by omega),by omega,by omega,?_⟩
  rw [AO _ _ _ (by omega),gL, ←Nat.add_assoc,Int.pow_succ]
  have e:l.getD (i+j) 0+c+x*b.getD j 0=(l.getD (i+j) 0+c+x*b.getD j 0)%256+256*((l.getD (i+j) 0+c+x*b.getD j 0)/256):=by omega
  generalize (l.getD (i+j) 0+c+x*b.getD j 0)%256=r at*
  generalize (l.getD (i+j) 0+c+x*b.getD j 0)/256=q at*
  have e1:(256:Int)^(i+j)*(x*b.getD j 0)=256^i*(x*(256^j*b.getD j 0)):=by
   rw [Int.pow_add,Int.mul_assoc]
   congr 1
   rw [←Int.mul_assoc, ←Int.mul_assoc,Int.mul_comm (256^j) x]
  have e2:(256:Int)^(i+j)*(l.getD (i+j) 0+c+x*b.getD j 0)=256^(i+j)*(r+256*q):=by rw [e]
  simp only [Int.mul_add,Int.mul_sub] at e2 h5 ⊢
  rw [e1] at e2
  rw [Int.mul_assoc]
  omega
theorem qm {a:List Int} (d:Dg a) (n:Nat):nv (a.take n)<256^n:=by
 have h:=xz (d.take n)
 have:(256:Int)^(a.take n).length≤256^n:=lF (by rw [List.length_take];exact Nat.min_le_left n a.length)
 omega
theorem Oz (x:Int) (b:List Int) (i:Nat) (o:List Int):r6 x b i o≤b.length+1∧b.length≤r6 x b i o:=by unfold r6;split<;>omega
theorem OA {a b o:List Int} (da:Dg a) (db:Dg b) {i:Nat} (hi:i<a.length) (h1:o.length=a.length+b.length+1) (h2:Dg o) (h3:nv o=nv (a.take i)*nv b):
  (tR (a.getD i 0) b i o (r6 (a.getD i 0) b i o)).1.length=o.length∧Dg (tR (a.getD i 0) b i o (r6 (a.getD i 0) b i o)).1∧(tR (a.getD i 0) b i o (r6 (a.getD i 0) b i o)).2=0∧nv (tR (a.getD i 0) b i o (r6 (a.getD i 0) b i o)).1=nv (a.take (i+1))*nv b:=by
 have hb:=Oz (a.getD i 0) b i o
 obtain ⟨g1,g2,g3,g4,g5⟩:=Oy (i:=i) (da.getD i) db h2 (by omega) (r6 (a.getD i 0) b i o) hb.1
 rw [List.take_of_length_le hb.2,h3] at g5
 have hv:nv (a.take i)*nv b+256^i*(a.getD i 0*nv b)=nv (a.take (i+1))*nv b:=by rw [gL,Int.add_mul,Int.mul_assoc]
 rw [hv] at g5
 have hc:(tR (a.getD i 0) b i o (r6 (a.getD i 0) b i o)).2=0:=by
  by_cases q:0<(tR (a.getD i 0) b i o b.length).2
  ·have hn:r6 (a.getD i 0) b i o=b.length+1:=by unfold r6;rw [if_pos q]
   rw [hn] at g2 g3 g5 ⊢
   have m1:=qm da (i+1)
   have m2:=xz db
   have m4:=eD db
   have m5:nv (a.take (i+1))*nv b<256^(i+(b.length+1)):=by
    rw [show i+(b.length+1)=(i+1)+b.length by omega,Int.pow_add]
    exact Int.mul_lt_mul' (Int.le_of_lt m1) m2 m4 (mH _)
   have m6:=eD g2
   generalize (tR (a.getD i 0) b i o (b.length+1)).2=c at*
   apply Classical.byContradiction
   intro hc
   have:(256:Int)^(i+(b.length+1))*1≤256^(i+(b.length+1))*c:=Int.mul_le_mul_of_nonneg_left (by omega) (Int.le_of_lt (mH _))
   omega
  ·have hn:r6 (a.getD i 0) b i o=b.length:=by unfold r6;rw [if_neg q]
   rw [hn] at g3 ⊢
   omega
 rw [hc,Int.mul_zero,Int.add_zero] at g5
 exact ⟨g1,g2,hc,g5⟩
theorem HB {a b:List Int} (da:Dg a) (db:Dg b):∀i,i≤a.length→(tO a b i).length=a.length+b.length+1∧Dg (tO a b i)∧nv (tO a b i)=nv (a.take i)*nv b
 |0,_=>⟨by simp [tO],rZ _,by rw [tO,xA];simp [nv]⟩
 |i+1,hi=>by
  obtain ⟨h1,h2,h3⟩:=HB da db i (by omega)
  obtain ⟨g1,g2,_,g4⟩:=OA da db (by omega) h1 h2 h3
  exact ⟨by rw [tO,g1,h1],g2,g4⟩
theorem AR {a b:List Int} (da:Dg a) (db:Dg b):Dg (uj a b)∧nv (uj a b)=nv a*nv b:=by
 obtain ⟨_,h2,h3⟩:=HB da db a.length (Nat.le_refl _)
 rw [List.take_of_length_le (Nat.le_refl _)] at h3
 exact ⟨h2,h3⟩
theorem AS {a b:List Int} (da:Dg a) (db:Dg b):(uj a b).length=a.length+b.length+1:=(HB da db a.length (Nat.le_refl _)).1
def OB (a:List Int):List Int:=a.take 16++[a.getD 16 0%4]
def OC (a:List Int) (i:Nat):Int:=a.getD (16+i) 0/4+a.getD (17+i) 0%4*64
def qw (a:List Int):List Int:=(List.range (a.length-16)).map (OC a)
def Z6:List Int→List Int
 | []=>[]
 |x::l=>(x/4+l.getD 0 0%4*64)::Z6 l
theorem HC:∀{l:List Int},Dg l→Dg (Z6 l)∧nv (Z6 l)=nv l/4
 | [],_=>⟨Dg.nil,rfl⟩
 |x::l,d=>by
  obtain ⟨h1,h2⟩:=HC (Dg.cons.1 d).2
  have hx:=(Dg.cons.1 d).1
  have hy:=(Dg.cons.1 d).2.getD 0
  refine ⟨Dg.cons.2 ⟨by omega,h1⟩,?_⟩
  rw [Z6,nv,nv,h2]
  have:nv l%4=l.getD 0 0%4:=by
   cases l with
   |nil=>rfl
   |cons y l=>rw [nv,List.getD_cons_zero];omega
  omega
theorem yT:∀(l:List Int),Z6 l=(List.range l.length).map fun i=>l.getD i 0/4+l.getD (i+1) 0%4*64
 | []=>rfl
 |x::l=>by
  rw [Z6,yT l,List.length_cons,List.range_succ_eq_map,List.map_cons,List.map_map]
  rfl
theorem jx (l:List Int) (n i:Nat):(l.drop n).getD i 0=l.getD (n+i) 0:=by
 rw [List.getD_eq_getElem?_getD,List.getD_eq_getElem?_getD,List.getElem?_drop]
theorem Z7 (a:List Int):qw a=Z6 (a.drop 16):=by
 rw [yT,List.length_drop]
 unfold qw OC
 refine List.map_congr_left fun i _=>?_
 rw [jx,jx,show 16+(i+1)=17+i by omega]
def V4 (a:List Int):Bool:=decide (17<a.length)||decide (a.length=17∧3<a.getD 16 0)
theorem xB:(256:Int)^16=340282366920938463463374607431768211456:=by decide
theorem HD (l:List Int):nv l=l.getD 0 0+256*nv (l.drop 1):=by
 cases l with
 |nil=>rfl
 |cons x l=>rfl
theorem HE {a:List Int} (d:Dg a) (t:Tm a):V4 a=true↔1361129467683753853853498429727072845824≤nv a:=by
 unfold V4
 rw [Bool.or_eq_true,decide_eq_true_eq,decide_eq_true_eq]
 by_cases h:a.length≤16
 ·have:=xz d
  have e:(256:Int)^a.length≤256^16:=lF h
  rw [xB] at e
  omega
 ·have hs:=ou a 16 (by omega)
  have h1:=qm d 16
  have h2:=eD (d.take 16)
  rw [xB] at hs h1
  have dd:=d.drop 16
  have td:∀(n:Nat) {l:List Int},Tm l→Tm (l.drop n):=fun n=>by
   induction n with
   |zero=>intro l h;exact h
   |succ n ih=>
    intro l h
    cases l with
    |nil=>trivial
    |cons x l=>exact ih h.tail
  have t16:=td 16 t
  have g0:=jx a 16 0
  have hlen:(a.drop 16).length=a.length-16:=List.length_drop ..
  rw [Nat.add_zero] at g0
  generalize a.drop 16=l at*
  match l,hlen with
  | [],hlen=>simp at hlen;omega
  | [x],hlen=>
   simp only [nv,List.getD_cons_zero,List.length_cons,List.length_nil] at*
   omega
  |x::y::l,hlen=>
   have p:=AP (Dg.cons.1 dd).2 t16.tail (by simp)
   have:=(Dg.cons.1 dd).1
   rw [nv] at hs
   simp only [List.length_cons] at hlen
   omega
theorem V5 {a:List Int} (d:Dg a) (h:16<a.length):Dg (OB a)∧Dg (qw a)∧nv (OB a)=nv a%1361129467683753853853498429727072845824∧nv (qw a)=nv a/1361129467683753853853498429727072845824:=by
 have hs:=ou a 16 (by omega)
 have h1:=qm d 16
 have h2:=eD (d.take 16)
 have dd:=d.drop 16
 have hh:=HD (a.drop 16)
 have g0:=jx a 16 0
 rw [Nat.add_zero] at g0
 have n0:=eD dd
 have n1:=eD (dd.drop 1)
 have gb:=d.getD 16
 obtain ⟨s1,s2⟩:=HC dd
 rw [Z7,s2]
 refine ⟨(d.take 16).app (Dg.cons.2 ⟨by omega,Dg.nil⟩),s1,?_,?_⟩
 ·unfold OB
  rw [fW,List.length_take,Nat.min_eq_left (by omega)]
  simp only [nv,Int.mul_zero,Int.add_zero]
  rw [xB] at hs h1 ⊢
  omega
 ·rw [xB] at hs h1
  omega
def HF (v:Nat):Nat:=if h:v<1361129467683753853853498429727072845824 then v else HF (v%1361129467683753853853498429727072845824+5*(v/1361129467683753853853498429727072845824))
termination_by v
decreasing_by omega
theorem OD (v:Nat):HF v<1361129467683753853853498429727072845824:=by
 induction v using Nat.strongRecOn with
 |ind v ih=>
  rw [HF]
  split
  ·assumption
  ·exact ih _ (by omega)
theorem Tz (v:Nat):HF v%1361129467683753853853498429727072845819=v%1361129467683753853853498429727072845819:=by
 induction v using Nat.strongRecOn with
 |ind v ih=>
  rw [HF]
  split
  ·rfl
  ·rw [ih _ (by omega)]
   omega
def x9 (a:List Int):List Int:=m8 (je (OB a) (uj (qw a) [5]))
theorem d5:Dg [5]:=Dg.cons.2 ⟨by decide,Dg.nil⟩
theorem Z8 {a:List Int} (d:Dg a) (h:16<a.length):Dg (x9 a)∧Tm (x9 a)∧nv (x9 a)=nv a%1361129467683753853853498429727072845824+5*(nv a/1361129467683753853853498429727072845824):=by
 obtain ⟨h1,h2,h3,h4⟩:=V5 d h
 obtain ⟨t1,t2⟩:=AR h2 d5
 obtain ⟨p1,p2⟩:=tq h1 t1
 obtain ⟨q1,q2,q3⟩:=qk p1
 refine ⟨q1,q2,?_⟩
 unfold x9
 rw [q3,p2,t2,h3,h4]
 simp only [nv]
 omega
noncomputable def OE (v:Int):List Int:=@dite _ (∃l,Dg l∧Tm l∧nv l=v) (Classical.propDecidable _) (fun h=>Classical.choose h) (fun _=>[])
theorem OF {l:List Int} (d:Dg l) (t:Tm l):OE (nv l)=l:=by
 have h:∃m,Dg m∧Tm m∧nv m=nv l:=⟨l,d,t,rfl⟩
 unfold OE
 rw [dif_pos h]
 obtain ⟨h1,h2,h3⟩:=Classical.choose_spec h
 exact Ot h1 d h2 t h3
theorem TA {l:List Int} (d:Dg l):m8 l=OE (nv l):=by
 obtain ⟨h1,h2,h3⟩:=qk d
 rw [←h3,OF h1 h2]
end Go.Proofs.YtibfpjeeanppjaaGreat.R4
end
section
namespace Go.Proofs.YtibfpjeeanppjaaGreat.R4
open Go Go.Sy Sh
abbrev J (n:Int):Int:=IntKind.i64.wrap n
theorem dy {n:Int} (h0:0≤n) (h1:n<1000000000000000):J n=n:=wrap_i64 n (by omega) (by omega)
theorem cY {n:Int} (h:0≤n) (k:Int):n.tmod k=n%k:=Int.tmod_eq_emod_of_nonneg h
theorem eA {n:Int} (h:0≤n) (k:Int):n.tdiv k=n/k:=Int.tdiv_eq_ediv_of_nonneg h
def dK (l:List Int):Bool:=l.all fun z=>decide (0≤z)&&decide (z<256)
theorem aY {l:List Int}:dK l=true↔Dg l:=by
 unfold dK Dg
 rw [List.all_eq_true]
 exact ⟨fun h z hz=>by simpa using h z hz,fun h z hz=>by simpa using h z hz⟩
theorem bq.afI {k:Nat} {t:List (Option SV)} {h:List Blk} {o o':Bool} (i:Nat) (f:Bool) (K:IntKind) (hi:t[i]? =some (some (.nl (.slice none 0 0)))):
  bq k ⟨t,h,o⟩ ⟨t.set i (some (.ro f K [])),h,o'⟩:=fun B e w t' _ hl R=>⟨e,rfl,⟨by simpa using hl.1,fun j v v' a c=>by
  rw [List.getElem?_set] at a
  split at a
  ·rename_i q
   subst q
   split at a
   ·simp only [Option.some.injEq] at a
    subst a
    have h1:v'= .slice none 0 0:=hl.2 _ _ v' hi c
    exact .inl ⟨rfl,none,0,h1,fun _=>rfl⟩
   ·cases a
  ·exact hl.2 j v v' a c⟩,R⟩
noncomputable def DF:Code:=aE Tryz.f159
noncomputable def tg (f:Nat→Option Bool):bu:=mk (P:=Tryz.prog) [] [] f
theorem cg (f:Nat→Option Bool):ag Tryz.prog (tg f):=ah _ au.nil _ _
noncomputable def vj (a b:List Int) (m:Nat) (l:List Int) (c i:Int):St:=⟨slotsOf 54 [(0,.ro false .i64 a),(1,.ro false .i64 b),(5,.sl 0 0 0 1 m m false true),(6,.int .i64 c),(7,.int .i64 i)],[.b [.ints .i64 m l]],true⟩
noncomputable def aki (a b:List Int):St:=⟨slotsOf 54 [(0,.ro false .i64 a),(1,.ro false .i64 b),(5,.nl (.slice none 0 0)),(6,.int .i64 0),(7,.int .i64 0)],[],true⟩
def Tk:Nat→Option Bool:=fun i=>if i=12||i=29||i=39||i=50 then some true else none
def akj:Nat→Option Bool:=fun i=>if i=12||i=29||i=50 then some true else if i=39 then some false else none
def akk:Nat→Option Bool:=fun i=>if i=17||i=39||i=50 then some true else if i=12||i=29 then some false else none
def plD:Nat→Option Bool:=fun i=>if i=21||i=50 then some true else if i=12||i=17||i=29||i=39 then some false else none
def plE:Nat→Option Bool:=fun i=>if i=12||i=17||i=21 then some false else none
def dO (ob:Bool) (i:Int) (n:Nat):Bool:=aa (aa (aa ob (decide (i<n))) (cL i n)) (decide (i.toNat<n))
section
variable (a b l:List Int) (m:Nat) (c i:Int)
theorem AH:(aW Tryz.prog (tg Tk) 60 0 4 (atoms DF) ⟨aO Tryz.f159.ntmps [.ro false .i64 a,.ro false .i64 b],[],true⟩).bind (St.cut [0,1,5,6,7] 0)=some (aki a b):=by kernel_rfl
theorem akl:(exec Tryz.prog (tg Tk) 60 0 (inner (inner (aA 4 DF))) (vj a b m l c i)).bind (fun r=>(r.2.cut [0,1,5,6,7] 1).map fun q=>(r.1,q))=
  some (.normal,{vj a b (m+1) (l++[(J (J (c+a.getD i.toNat 0)+b.getD i.toNat 0)).tmod 256]) (J ((J (J (c+a.getD i.toNat 0)+b.getD i.toNat 0)).tdiv 256)) (J (i+1)) with ob:=aa (dO (dO (aa true (decide (i<a.length))) i a.length) i b.length) (xN l.length m)}):=by kernel_rfl
theorem afJ:(exec Tryz.prog (tg akj) 60 0 (inner (inner (aA 4 DF))) (vj a b m l c i)).bind (fun r=>(r.2.cut [0,1,5,6,7] 1).map fun q=>(r.1,q))=
  some (.normal,{vj a b (m+1) (l++[(J (c+a.getD i.toNat 0)).tmod 256]) (J ((J (c+a.getD i.toNat 0)).tdiv 256)) (J (i+1)) with ob:=aa (aa (dO (aa true (decide (i<a.length))) i a.length) (!decide (i<b.length))) (xN l.length m)}):=by kernel_rfl
theorem afK:(exec Tryz.prog (tg akk) 60 0 (inner (inner (aA 4 DF))) (vj a b m l c i)).bind (fun r=>(r.2.cut [0,1,5,6,7] 1).map fun q=>(r.1,q))=
  some (.normal,{vj a b (m+1) (l++[(J (c+b.getD i.toNat 0)).tmod 256]) (J ((J (c+b.getD i.toNat 0)).tdiv 256)) (J (i+1)) with ob:=aa (dO (aa (aa (aa true (!decide (i<a.length))) (decide (i<b.length))) (!decide (i<a.length))) i b.length) (xN l.length m)}):=by kernel_rfl
theorem akm:(exec Tryz.prog (tg plD) 60 0 (inner (inner (aA 4 DF))) (vj a b m l c i)).bind (fun r=>(r.2.cut [0,1,5,6,7] 1).map fun q=>(r.1,q))=
  some (.normal,{vj a b (m+1) (l++[c.tmod 256]) (J (c.tdiv 256)) (J (i+1)) with ob:=aa (aa (aa (aa (aa (aa true (!decide (i<a.length))) (!decide (i<b.length))) (decide (c>0))) (!decide (i<a.length))) (!decide (i<b.length))) (xN l.length m)}):=by kernel_rfl
theorem akn:(exec Tryz.prog (tg plE) 60 0 (inner (inner (aA 4 DF))) (vj a b m l c i)).bind (fun r=>(r.2.cut [0,1,5,6,7] 1).map fun q=>(r.1,q))=
  some (.exit 0,{vj a b m l c i with ob:=aa (aa (aa true (!decide (i<a.length))) (!decide (i<b.length))) (!decide (c>0))}):=by kernel_rfl
end
theorem mI {ob:Bool} {j n:Nat} (h1:ob=true) (h:j<n):dO ob j n=true:=by
 unfold dO
 rw [h1,decide_eq_true (show (j:Int)<n by omega),aK (by omega) (by omega),decide_eq_true (show ((j:Int)).toNat<n by omega)];rfl
theorem lG {l:List Int} {i:Nat} (h:l.length≤i):l.getD i 0=0:=by rw [List.getD_eq_getElem?_getD,List.getElem?_eq_none h];rfl
noncomputable def TB (a b:List Int) (j:Nat):St:=vj a b j ((List.range j).map (pd a b)) (cy a b j) j
theorem r7 {a b:List Int} {j:Nat} {x c i:Int} (hx:x=pd a b j) (hc:c=cy a b (j+1)) (hi:i=((j+1:Nat):Int)):
  bq 0 (vj a b (j+1) ((List.range j).map (pd a b)++[x]) c i) (TB a b (j+1)):=by
 subst hx hc hi
 refine bq.same rfl ?_
 show [Blk.b [SV.ints .i64 (j+1) ((List.range j).map (pd a b)++[pd a b j])]]=[Blk.b [SV.ints .i64 (j+1) ((List.range (j+1)).map (pd a b))]]
 rw [List.range_succ,List.map_append];rfl
theorem AF {a b:List Int} (da:Dg a) (db:Dg b) (ha:a.length<1000000) (hb:b.length<1000000) {j:Nat} (hj:j<jd a b):Tr Tryz.prog none 0 (inner (inner (aA 4 DF))) (TB a b j) .normal (TB a b (j+1)):=by
 have hl:((List.range j).map (pd a b)).length=j:=by simp
 have hm:=(ql a b).2
 have hm':AQ a b=max a.length b.length:=rfl
 have hc:=Ov da db j
 have h1:=da.getD j
 have h2:=db.getD j
 have hJ:J ((j:Int)+1)=((j+1:Nat):Int):=by rw [dy (by omega) (by omega)];rfl
 have hap:xN ((List.range j).map (pd a b)).length j=true:=by rw [hl];exact cG (by omega)
 by_cases ia:j<a.length
 ·by_cases ib:j<b.length
  ·have e:=akl a b ((List.range j).map (pd a b)) j (cy a b j) j
   rw [Int.toNat_natCast,dy (n:=cy a b j+a.getD j 0) (by omega) (by omega),dy (n:=cy a b j+a.getD j 0+b.getD j 0) (by omega) (by omega),cY (by omega),eA (by omega),dy (by omega) (by omega),hJ] at e
   refine Tr.post (Tr.cut (cg _) 60 _ 1 (by omega) e ?_) (r7 rfl rfl rfl)
   show aa _ _=true
   rw [hap,mI (mI (by rw [decide_eq_true (show (j:Int)<a.length by omega)];rfl) ia) ib];rfl
  ·have e:=afJ a b ((List.range j).map (pd a b)) j (cy a b j) j
   rw [Int.toNat_natCast,dy (n:=cy a b j+a.getD j 0) (by omega) (by omega),cY (by omega),eA (by omega),dy (by omega) (by omega),hJ] at e
   have z:=lG (l:=b) (i:=j) (by omega)
   refine Tr.post (Tr.cut (cg _) 60 _ 1 (by omega) e ?_) (r7 (by unfold pd;rw [z,Int.add_zero]) (by rw [cy,z,Int.add_zero]) rfl)
   show aa (aa _ _) _=true
   rw [hap,mI (by rw [decide_eq_true (show (j:Int)<a.length by omega)];rfl) ia,decide_eq_false (show ¬(j:Int)<b.length by omega)];rfl
 ·have z:=lG (l:=a) (i:=j) (by omega)
  by_cases ib:j<b.length
  ·have e:=afK a b ((List.range j).map (pd a b)) j (cy a b j) j
   rw [Int.toNat_natCast,dy (n:=cy a b j+b.getD j 0) (by omega) (by omega),cY (by omega),eA (by omega),dy (by omega) (by omega),hJ] at e
   refine Tr.post (Tr.cut (cg _) 60 _ 1 (by omega) e ?_) (r7 (by unfold pd;rw [z,Int.add_zero]) (by rw [cy,z,Int.add_zero]) rfl)
   show aa _ _=true
   rw [hap,mI (by rw [decide_eq_false (show ¬(j:Int)<a.length by omega),decide_eq_true (show (j:Int)<b.length by omega)];rfl) ib];rfl
  ·have z':=lG (l:=b) (i:=j) (by omega)
   have hp:0<cy a b j:=by
    unfold jd at hj
    split at hj
    ·rename_i q
     have:j=AQ a b:=by omega
     rw [this];exact q
    ·omega
   have e:=akm a b ((List.range j).map (pd a b)) j (cy a b j) j
   rw [cY (by omega),eA (by omega),dy (by omega) (by omega),hJ] at e
   refine Tr.post (Tr.cut (cg _) 60 _ 1 (by omega) e ?_) (r7 (by unfold pd;rw [z,z',Int.add_zero,Int.add_zero]) (by rw [cy,z,z',Int.add_zero,Int.add_zero]) rfl)
   show aa _ _=true
   rw [hap,decide_eq_false (show ¬(j:Int)<a.length by omega),decide_eq_false (show ¬(j:Int)<b.length by omega),decide_eq_true (show cy a b j>0 by omega)];rfl
theorem HG {a b:List Int} (da:Dg a) (db:Dg b) (ha:a.length<1000000) (hb:b.length<1000000):
  ai Tryz.prog 159 [.ro false .i64 a,.ro false .i64 b] [] (.sl 0 0 0 1 (jd a b) (jd a b) false true) [.b [.ints .i64 (jd a b) (je a b)]]:=by
 have hm:=ql a b
 have hm':AQ a b=max a.length b.length:=rfl
 have bY:Tr Tryz.prog none 0 (aA 4 DF) (TB a b 0) .normal (TB a b (jd a b)):=by
  refine Tr.loop (P:=Tryz.prog) (ro:=none) (k:=0) 0 (c:=aA 4 DF) (by kernel_rfl) (TB a b) (jd a b) (s':=TB a b (jd a b)) (fun j hj=>AF da db ha hb hj) ?_
  have e:=akn a b ((List.range (jd a b)).map (pd a b)) (jd a b) (cy a b (jd a b)) (jd a b)
  rw [decide_eq_false (show ¬((jd a b:Nat):Int)<a.length by omega),decide_eq_false (show ¬((jd a b:Nat):Int)<b.length by omega),decide_eq_false (show ¬cy a b (jd a b)>0 by rw [Ox da db];decide)] at e
  exact Tr.cut (cg _) 60 _ 1 (by omega) e rfl
 refine ai.cu (cg Tk) 60 5 1 Tryz.func159 (by simp) rfl (fun s' x h=>?_) (s:=TB a b (jd a b)) (p:=true) (by kernel_rfl) rfl rfl rfl
 refine bf.items (cg Tk) 60 4 _ 0 (by simp) (AH a b) rfl (by decide) ?_
 exact bf.pre (s1:=TB a b 0) (bf.item 4 (by decide) bY h) ((bq.nothing 5 .i64 false true rfl).trans (bq.same rfl rfl)) (by decide)
theorem OG {a b:List Int} (da:Dg a) (db:Dg b) (ha:a.length<1000000) (hb:b.length<1000000):
  ai Tryz.prog 159 [.ro false .i64 a,.ro false .i64 b] [] (.ro true .i64 (je a b)) []:=
 ai.frozen (N:=jd a b) (ex:=false) (wh:=true) (HG da db ha hb) (j7 a b)
def V6:List SV→Option (SV×List Blk×Bool)
 | [.ro false .i64 a,.ro false .i64 b]=>some (.sl 0 0 0 1 (jd a b) (jd a b) false true,[.b [.ints .i64 (jd a b) (je a b)]],dK a&&dK b&&decide (a.length<1000000)&&decide (b.length<1000000))
 |_=>none
noncomputable def afL:Entry Tryz.prog:=.val 159 _ Tryz.func159 (by decide) rfl true 1 V6 fun vs v new e=>by
 unfold V6 at e
 split at e
 ·simp only [Option.some.injEq,Prod.mk.injEq,Bool.and_eq_true,decide_eq_true_eq,aY] at e
  obtain ⟨rfl,rfl,⟨⟨h1,h2⟩,h3⟩,h4⟩:=e
  exact HG h1 h2 h3 h4
 ·cases e
def OH:List SV→Option (SV×List Blk×Bool)
 | [.ro false .i64 a,.ro false .i64 b]=>some (.ro true .i64 (je a b),[],dK a&&dK b&&decide (a.length<1000000)&&decide (b.length<1000000))
 |_=>none
noncomputable def OI:Entry Tryz.prog:=.val 159 _ Tryz.func159 (by decide) rfl true 0 OH fun vs v new e=>by
 unfold OH at e
 split at e
 ·simp only [Option.some.injEq,Prod.mk.injEq,Bool.and_eq_true,decide_eq_true_eq,aY] at e
  obtain ⟨rfl,rfl,⟨⟨h1,h2⟩,h3⟩,h4⟩:=e
  exact OG h1 h2 h3 h4
 ·cases e
end Go.Proofs.YtibfpjeeanppjaaGreat.R4
end
section
namespace Go.Proofs.YtibfpjeeanppjaaGreat.R4
open Go Go.Sy Sh
noncomputable def tmB:Code:=aE Tryz.f157
noncomputable def Qg (a:List Int):St:=⟨slotsOf 21 [(0,.ro false .i64 a)],[],true⟩
def tmA:Nat→Option Bool:=fun i=>if i=5||i=13 then some true else none
def tmF:Nat→Option Bool:=fun i=>if i=5 then some true else if i=13 then some false else none
def tmZ:Nat→Option Bool:=fun i=>if i=5 then some false else none
def TC (a:List Int):Int:=J ((a.length:Int)-1)
def tmO (a:List Int):Bool:=aa (aa (aa true (decide ((a.length:Int)>0))) (cL (TC a) a.length)) (decide ((TC a).toNat<a.length))
section
variable (a:List Int)
theorem TD:(aW Tryz.prog (tg tmA) 60 0 1 (atoms tmB) ⟨aO Tryz.f157.ntmps [.ro false .i64 a],[],true⟩).bind (St.cut [0] 0)=some (Qg a):=by kernel_rfl
theorem Z9:(exec Tryz.prog (tg tmA) 60 0 (inner (inner (aA 1 tmB))) (Qg a)).bind (fun r=>(r.2.cut [0] 0).map fun q=>(r.1,q))=
  some (.normal,{Qg (a.take (TC a).toNat) with ob:=aa (aa (tmO a) (a.getD (TC a).toNat 0==0)) (aa true (decide (0≤TC a)&&decide (TC a≤(a.length:Int))))}):=by kernel_rfl
theorem aaa:(exec Tryz.prog (tg tmF) 60 0 (inner (inner (aA 1 tmB))) (Qg a)).bind (fun r=>(r.2.cut [0] 0).map fun q=>(r.1,q))=
  some (.exit 0,{Qg a with ob:=aa (tmO a) (!(a.getD (TC a).toNat 0==0))}):=by kernel_rfl
theorem TE:(exec Tryz.prog (tg tmZ) 60 0 (inner (inner (aA 1 tmB))) (Qg a)).bind (fun r=>(r.2.cut [0] 0).map fun q=>(r.1,q))=
  some (.exit 0,{Qg a with ob:=aa true (!decide ((a.length:Int)>0))}):=by kernel_rfl
end
theorem HH (a:List Int):∀n,n≤a.length→a.length<1000000→iR Tryz.prog none 0 (inner (inner (aA 1 tmB))) (Qg (a.take n)) (.exit 0) (Qg (a.take (Dd a n)))
 |0,_,_=>by
  have e:=TE (a.take 0)
  exact iR.leave (Tr.cut (k:=0) (cg tmZ) 60 _ 0 (Nat.le_refl _) e rfl) (by simp)
 |n+1,h,hb=>by
  have hl:(a.take (n+1)).length=n+1:=by rw [List.length_take];omega
  have hI:TC (a.take (n+1))=(n:Int):=by unfold TC;rw [hl,dy (by omega) (by omega)];omega
  have hO:tmO (a.take (n+1))=true:=by
   unfold tmO
   rw [hI,hl,aK (by omega) (by omega),decide_eq_true (show (((n+1:Nat):Int))>0 by omega),Int.toNat_natCast,decide_eq_true (show n<n+1 by omega)];rfl
  have hg:(a.take (n+1)).getD n 0=a.getD n 0:=tn a _ _ (by omega)
  by_cases q:a.getD n 0=0
  ·have e:=Z9 (a.take (n+1))
   rw [hO,hI,hl,Int.toNat_natCast,hg,q,List.take_take,Nat.min_eq_left (by omega),decide_eq_true (show (0:Int)≤n by omega),decide_eq_true (show (n:Int)≤((n+1:Nat):Int) by omega)] at e
   have ih:=HH a n (by omega) hb
   unfold Dd
   rw [if_pos q]
   exact iR.step (Tr.cut (k:=0) (cg tmA) 60 _ 0 (Nat.le_refl _) e rfl) ih
  ·have e:=aaa (a.take (n+1))
   rw [hO,hI,Int.toNat_natCast,hg,beq_false_of_ne q] at e
   unfold Dd
   rw [if_neg q]
   exact iR.leave (Tr.cut (k:=0) (cg tmF) 60 _ 0 (Nat.le_refl _) e rfl) (by simp)
theorem TF {a:List Int} (ha:a.length<1000000):ai Tryz.prog 157 [.ro false .i64 a] [] (.ro false .i64 (m8 a)) []:=by
 have hl:=HH a a.length (Nat.le_refl _) ha
 rw [List.take_of_length_le (Nat.le_refl _)] at hl
 refine ai.cu (cg tmA) 60 2 0 Tryz.func157 (by simp) rfl (fun s' x h=>?_) (s:=Qg (m8 a)) (p:=true) (by kernel_rfl) rfl rfl rfl
 refine bf.items (cg tmA) 60 1 _ 0 (by simp) (TD a) rfl (by decide) ?_
 exact bf.item 1 (by decide) (Tr.Bk 0 (by kernel_rfl) hl) h
def V7:List SV→Option (SV×List Blk×Bool)
 | [.ro false .i64 a]=>some (.ro false .i64 (m8 a),[],decide (a.length<1000000))
 |_=>none
noncomputable def V8:Entry Tryz.prog:=.val 157 _ Tryz.func157 (by decide) rfl false 0 V7 fun vs v new e=>by
 unfold V7 at e
 split at e
 ·simp only [Option.some.injEq,Prod.mk.injEq,decide_eq_true_eq] at e
  obtain ⟨rfl,rfl,h⟩:=e
  exact TF h
 ·cases e
noncomputable def nuB:Code:=aE Tryz.f155
def nuA (b:Bool):Nat→Option Bool:=fun i=>if i=8 then some b else if i=18 then some true else none
noncomputable def Qh (a:List Int) (m:Nat) (l:List Int) (i:Int):St:=⟨slotsOf 20 [(0,.ro false .u8 a),(3,.sl 0 0 0 1 m m false true),(4,.int .i64 i)],[.b [.ints .i64 m l]],true⟩
noncomputable def ako (a:List Int):St:=⟨slotsOf 20 [(0,.ro false .u8 a),(3,.nl (.slice none 0 0)),(4,.int .i64 0)],[],true⟩
section
variable (a l:List Int) (m:Nat) (i:Int)
theorem TG:(aW Tryz.prog (tg (nuA true)) 60 0 3 (atoms nuB) ⟨aO Tryz.f155.ntmps [.ro false .u8 a],[],true⟩).bind (St.cut [0,3,4] 0)=some (ako a):=by kernel_rfl
theorem aab:(exec Tryz.prog (tg (nuA true)) 60 0 (inner (inner (aA 3 nuB))) (Qh a m l i)).bind (fun r=>(r.2.cut [0,3,4] 1).map fun q=>(r.1,q))=
  some (.normal,{Qh a (m+1) (l++[J (a.getD i.toNat 0)]) (J (i+1)) with ob:=aa (dO true i a.length) (xN l.length m)}):=by kernel_rfl
theorem aac:(exec Tryz.prog (tg (nuA false)) 60 0 (inner (inner (aA 3 nuB))) (Qh a m l i)).bind (fun r=>(r.2.cut [0,3,4] 1).map fun q=>(r.1,q))=
  some (.exit 0,{Qh a m l i with ob:=aa true (!decide (i<a.length))}):=by kernel_rfl
end
theorem xC {a:List Int} {j:Nat} (h:j<a.length):a.take (j+1)=a.take j++[a.getD j 0]:=by
 rw [List.take_add_one,List.getElem?_eq_getElem h,List.getD_eq_getElem?_getD,List.getElem?_eq_getElem h];rfl
theorem Fi {a:List Int} (d:Dg a) (ha:a.length<1000000):ai Tryz.prog 155 [.ro false .u8 a] [] (.sl 0 0 0 1 a.length a.length false true) [.b [.ints .i64 a.length a]]:=by
 have bY:Tr Tryz.prog none 0 (aA 3 nuB) (Qh a 0 [] 0) .normal (Qh a a.length a a.length):=by
  have key:=Tr.loop (P:=Tryz.prog) (ro:=none) (k:=0) 0 (c:=aA 3 nuB) (by kernel_rfl) (fun j:Nat=>Qh a j (a.take j) j) a.length (s':=Qh a a.length a a.length) (fun j hj=>?_) ?_
  ·exact key
  ·have e:=aab a (a.take j) j j
   have hd:=d.getD j
   have hl:(a.take j).length=j:=by rw [List.length_take];omega
   rw [hl,cG (by omega),mI rfl hj,Int.toNat_natCast,dy hd.1 (by omega),dy (n:=(j:Int)+1) (by omega) (by omega), ←xC hj] at e
   exact Tr.post (Tr.cut (cg _) 60 _ 1 (by omega) e rfl) (bq.same rfl rfl)
  ·have e:=aac a a a.length a.length
   rw [decide_eq_false (show ¬((a.length:Int)<a.length) by omega)] at e
   refine Tr.pre (Tr.cut (cg _) 60 _ 1 (by omega) e rfl) ?_
   rw [List.take_of_length_le (Nat.le_refl _)]
   exact bq.refl _ _
 refine ai.cu (cg (nuA true)) 60 4 1 Tryz.func155 (by simp) rfl (fun s' x h=>?_) (s:=Qh a a.length a a.length) (p:=true) (by kernel_rfl) rfl rfl rfl
 refine bf.items (cg (nuA true)) 60 3 _ 0 (by simp) (TG a) rfl (by decide) ?_
 exact bf.pre (s1:=Qh a 0 [] 0) (bf.item 3 (by decide) bY h) ((bq.nothing 3 .i64 false true rfl).trans (bq.same rfl rfl)) (by decide)
def Dh:List SV→Option (SV×List Blk×Bool)
 | [.ro false .u8 a]=>some (.sl 0 0 0 1 a.length a.length false true,[.b [.ints .i64 a.length a]],dK a&&decide (a.length<1000000))
 |_=>none
noncomputable def OJ:Entry Tryz.prog:=.val 155 _ Tryz.func155 (by decide) rfl true 1 Dh fun vs v new e=>by
 unfold Dh at e
 split at e
 ·simp only [Option.some.injEq,Prod.mk.injEq,Bool.and_eq_true,decide_eq_true_eq,aY] at e
  obtain ⟨rfl,rfl,h1,h2⟩:=e
  exact Fi h1 h2
 ·cases e
end Go.Proofs.YtibfpjeeanppjaaGreat.R4
end
