/- This file proves the contract of Mark of the reference's chapter 4. Conditions: keys of 32 bytes; texts of bytes; lengths that memory bears. -/
import Derived.Test.YtibfpjeeanppjaaGreatYR4F
import Derived.Test.YtibfpjeeanppjaaGreatYKdB
set_option linter.all false
set_option maxRecDepth 100000
namespace Go.Proofs.YtibfpjeeanppjaaGreat.R4
open Go Go.Sy Sh
noncomputable def OO:Code:=aE Tryz.f119
noncomputable def mk1 (f:Nat→Option Bool):bu:=mk (P:=Tryz.prog) [OJ,OI,V8,yZ,fC] [] f
theorem tv (f:Nat→Option Bool):ag Tryz.prog (mk1 f):=ah _ au.nil _ _
noncomputable def mk2 (f:Nat→Option Bool):bu:=mk (P:=Tryz.prog) [afL] [] f
theorem Fl (f:Nat→Option Bool):ag Tryz.prog (mk2 f):=ah _ au.nil _ _
def rQ (k:List Int):List Int:=[k.getD 0 0,k.getD 1 0,k.getD 2 0,(k.getD 3 0).tmod 16,J (J ((k.getD 4 0).tdiv 4)*4),k.getD 5 0,k.getD 6 0,(k.getD 7 0).tmod 16,J (J ((k.getD 8 0).tdiv 4)*4),k.getD 9 0,k.getD 10 0,(k.getD 11 0).tmod 16,J (J ((k.getD 12 0).tdiv 4)*4),k.getD 13 0,k.getD 14 0,(k.getD 15 0).tmod 16]
noncomputable def HK (key text r s:List Int) (i:Int):St:=⟨slotsOf 113 [(1,.ro false .u8 text),(2,.ptr 0 0 0),(4,.ptr 1 0 0),(5,.sl 2 0 0 1 16 16 false true),(8,.ro false .i64 s),(9,.int .i64 i)],[.b [.ints .u8 32 key],.b [.ints .u8 16 (List.replicate 16 0)],.b [.ints .i64 16 r]],true⟩
noncomputable def akz (key text r:List Int):St:=⟨slotsOf 113 [(1,.ro false .u8 text),(2,.ptr 0 0 0),(4,.ptr 1 0 0),(5,.sl 2 0 0 1 16 16 false true),(8,.nl (.slice none 0 0)),(9,.int .i64 0)],[.b [.ints .u8 32 key],.b [.ints .u8 16 (List.replicate 16 0)],.b [.ints .i64 16 r]],true⟩
noncomputable def DN (s p r:List Int):List Int:=P7 (m8 (uj (m8 (je s (p++[1]))) r))
noncomputable def mkO (ob:Bool) (s p r:List Int):Bool:=
 let A:=aa ob (aa true (dK p&&decide (p.length<1000000)))
 let B:=aa A (xN p.length p.length)
 let C:=aa B (aa (aa true (aa (decide ((p++[1]).length=p.length+1)&&(decide (p.length+1≤p.length+1)&&true)) (decide ((p++[1]).length=p.length+1)))) (dK s&&dK (p++[1])&&decide (s.length<1000000)&&decide ((p++[1]).length<1000000)))
 let D:=aa C (aa true (decide ((je s (p++[1])).length<1000000)))
 let E:=aa D (aa (aa true (aa (decide (r.length=16)&&true) (decide (r.length=16)))) (dK (m8 (je s (p++[1])))&&dK r&&decide ((m8 (je s (p++[1]))).length<1000000)&&decide (r.length<1000000)))
 let F:=aa E (aa true (decide ((uj (m8 (je s (p++[1]))) r).length<1000000)))
 aa F (aa true (dK (m8 (uj (m8 (je s (p++[1]))) r))&&TL (m8 (uj (m8 (je s (p++[1]))) r))&&decide ((m8 (uj (m8 (je s (p++[1]))) r)).length<100000)))
def pcA (t:List Int) (i:Int):List Int:=(t.drop i.toNat).take ((J (i+16)).toNat-i.toNat)
def pcZ (t:List Int) (i:Int):List Int:=(t.drop i.toNat).take (t.length-i.toNat)
def slA (ob:Bool) (t:List Int) (i:Int):Bool:=aa ob (aa true (aa (decide (0≤J (i+16))&&decide (J (i+16)≤(t.length:Int))) (decide (0≤i)&&decide (i≤((J (i+16)).toNat:Int)))))
def slZ (ob:Bool) (t:List Int) (i:Int):Bool:=aa ob (aa true (aa (true&&decide ((t.length:Int)≤(t.length:Int))) (decide (0≤i)&&decide (i≤((t.length:Int).toNat:Int)))))
section
variable (key text r s:List Int) (i:Int)
theorem TM:(aW Tryz.prog (mk1 fun _=>none) 60 0 8 (atoms OO) ⟨aO Tryz.f119.ntmps [.agg [.ints .u8 32 (aH 32 key)],.ro false .u8 text],[],true⟩).bind (St.cut [1,2,4,5,8,9] 3)=
  some {akz (aH 32 key) text (rQ (aH 32 key)) with ob:=aa true (aa true (dK ((aH 32 key).take 16)&&true))}:=by kernel_rfl
theorem akC:(exec Tryz.prog (mk1 fun i=>if i=46||i=63 then some true else if i=54 then some false else none) 60 0 (inner (inner (aA 8 OO))) (HK key text r s i)).bind (fun r=>(r.2.cut [1,2,4,5,8,9] 3).map fun q=>(r.1,q))=
  some (.normal,{HK key text r (DN s (pcA text i) r) (J (i+16)) with ob:=mkO (slA (aa (aa true (decide (i<text.length))) (!decide (J (i+16)>text.length))) text i) s (pcA text i) r}):=by kernel_rfl
theorem akD:(exec Tryz.prog (mk1 fun i=>if i=46||i=63||i=54 then some true else none) 60 0 (inner (inner (aA 8 OO))) (HK key text r s i)).bind (fun r=>(r.2.cut [1,2,4,5,8,9] 3).map fun q=>(r.1,q))=
  some (.normal,{HK key text r (DN s (pcZ text i) r) (J (i+16)) with ob:=mkO (slZ (aa (aa true (decide (i<text.length))) (decide (J (i+16)>text.length))) text i) s (pcZ text i) r}):=by kernel_rfl
theorem aaj:(exec Tryz.prog (mk1 fun i=>if i=46 then some false else none) 60 0 (inner (inner (aA 8 OO))) (HK key text r s i)).bind (fun r=>(r.2.cut [1,2,4,5,8,9] 3).map fun q=>(r.1,q))=
  some (.exit 4,{HK key text r s i with ob:=aa true (!decide (i<text.length))}):=by kernel_rfl
end
noncomputable def mkV (key r s:List Int):St:=⟨slotsOf 113 [(2,.ptr 0 0 0),(4,.ptr 1 0 0),(8,.sl 4 0 0 1 (jd s [5]) (jd s [5]) false true)],[.b [.ints .u8 32 key],.b [.ints .u8 16 (List.replicate 16 0)],.b [.ints .i64 16 r],.b [.ints .i64 1 [5]],.b [.ints .i64 (jd s [5]) ((je s [5]).set 16 (((je s [5]).getD 16 0).tmod 4))]],true⟩
noncomputable def mkU (f:Bool) (key s:List Int):St:=⟨slotsOf 113 [(2,.ptr 0 0 0),(4,.ptr 1 0 0),(8,.ro f .i64 s)],[.b [.ints .u8 32 key],.b [.ints .u8 16 (List.replicate 16 0)]],true⟩
noncomputable def uo (key k a:List Int):St:=⟨slotsOf 113 [(4,.ptr 1 0 0),(13,.ro true .i64 a),(14,.ptr 3 0 0),(15,.int .i64 0)],[.b [.ints .u8 32 key],.b [.ints .u8 16 (List.replicate 16 0)],.b [.ints .i64 k.length k],.b [.ints .u8 16 (List.replicate 16 0)]],true⟩
def nh (key:List Int):List Int:=(key.drop 16).take 16
def mvO (s:List Int):Bool:=aa (aa (aa (aa true (aa true (dK s&&true&&decide (s.length<1000000)&&true))) (decide (((jd s [5]:Nat):Int)≥17))) (cL 16 (jd s [5]))) (decide (16<jd s [5]))
def muO (key s k:List Int):Bool:=aa (aa true (aa (aa (true&&decide (32≤key.length)) (decide (k.length=16))) (dK k&&decide (k.length<1000000))))
 (aa (aa true (aa (decide (k.length=k.length)&&(decide (k.length≤k.length)&&true)) (decide (k.length=k.length)))) (dK s&&dK k&&decide (s.length<1000000)&&decide (k.length<1000000)))
section
variable (key r s a:List Int) (i:Int) (f:Bool)
theorem akF (text:List Int):(aW Tryz.prog (mk2 fun i=>if i=77||i=82 then some true else none) 60 0 3 ((atoms OO).drop 9) (HK key text r s i)).bind (St.cut [2,4,8] 5)=
  some {mkV key r s with ob:=aa (aa (aa (aa (aa (mvO s) (decide ((je s [5]).getD 16 0≥4))) (cL 16 (jd s [5]))) (decide (16<jd s [5]))) (cL 16 (jd s [5]))) (decide (16<jd s [5])&&decide ((je s [5]).length=jd s [5]))}:=by kernel_rfl
theorem akG (text:List Int):(aW Tryz.prog (mk2 fun i=>if i=77 then some true else if i=82 then some false else none) 60 0 3 ((atoms OO).drop 9) (HK key text r s i)).bind (St.cut [2,4,8] 2)=
  some {mkU false key s with ob:=aa (mvO s) (!decide ((je s [5]).getD 16 0≥4))}:=by kernel_rfl
theorem akH (text:List Int):(aW Tryz.prog (mk2 fun i=>if i=77 then some false else none) 60 0 3 ((atoms OO).drop 9) (HK key text r s i)).bind (St.cut [2,4,8] 2)=
  some {mkU false key s with ob:=aa (aa true (aa true (dK s&&true&&decide (s.length<1000000)&&true))) (!decide (((jd s [5]:Nat):Int)≥17))}:=by kernel_rfl
theorem akI:Xm 4 2 (mkV key r s)=some (mkU true key ((je s [5]).set 16 (((je s [5]).getD 16 0).tmod 4)),aa (decide (((je s [5]).set 16 (((je s [5]).getD 16 0).tmod 4)).length=jd s [5])) (decide (jd s [5]=jd s [5])&&true)):=by kernel_rfl
theorem akJ:(aW Tryz.prog (mk1 fun i=>none) 60 0 3 ((atoms OO).drop 12) (mkU f key s)).bind (St.cut [4,13,14,15] 4)=
  some {uo key (nh key) (je s (nh key)) with ob:=muO key s (nh key)}:=by kernel_rfl
end
def lH (s:List Int):List Int:=if 17≤jd s [5]∧4≤(je s [5]).getD 16 0 then (je s [5]).set 16 (((je s [5]).getD 16 0).tmod 4) else s
def aak (a:List Int):List Int:=(List.range 16).map fun i=>IntKind.u8.wrap (a.getD i 0)
noncomputable def qn (key text:List Int):Nat→List Int
 |0=>[]
 |j+1=>DN (qn key text j) ((text.drop (16*j)).take 16) (rQ key)
noncomputable def HL (key text:List Int):List Int:=aak (je (lH (qn key text ((text.length+15)/16))) (nh key))
theorem OP (k:List Int):(rQ k).length=16:=rfl
theorem HM {k:List Int} (d:Dg k):Dg (rQ k):=by
 have h:=fun i=>d.getD i
 have m:∀i,0≤(k.getD i 0).tmod 16∧(k.getD i 0).tmod 16<256:=fun i=>by rw [cY (h i).1];have:=h i;omega
 have q:∀i,0≤J (J ((k.getD i 0).tdiv 4)*4)∧J (J ((k.getD i 0).tdiv 4)*4)<256:=fun i=>by
  have:=h i
  rw [eA (h i).1,dy (n:=k.getD i 0/4) (by omega) (by omega),dy (by omega) (by omega)];omega
 unfold rQ
 simp only [Dg.cons]
 exact ⟨h 0,h 1,h 2,m 3,q 4,h 5,h 6,m 7,q 8,h 9,h 10,m 11,q 12,h 13,h 14,m 15,Dg.nil⟩
theorem aal {v:Int} {l:List Int} (d:Dg l) (h:nv l=v):Dg (OE v)∧Tm (OE v)∧nv (OE v)=v:=by
 obtain ⟨h1,h2,h3⟩:=qk d
 rw [←h, ←TA d]
 exact ⟨h1,h2,h3⟩
theorem HN:∀(n:Nat) (v:Int),0≤v→v<256^n→∃l,Dg l∧nv l=v
 |0,v,h0,h1=>⟨[],Dg.nil,by simp at h1;simp [nv];omega⟩
 |n+1,v,h0,h1=>by
  rw [Int.pow_succ] at h1
  obtain ⟨l,d,e⟩:=HN n (v/256) (by omega) (by omega)
  exact ⟨v%256::l,Dg.cons.2 ⟨by omega,d⟩,by rw [nv,e];omega⟩
theorem afZ (v:Nat):Dg (OE (HF v:Nat))∧Tm (OE (HF v:Nat))∧nv (OE (HF v:Nat))=(HF v:Nat):=by
 have h:=OD v
 obtain ⟨l,d,e⟩:=HN 17 (HF v:Nat) (by omega) (by
  have:(256:Int)^17=87112285931760246646623899502532662132736:=by decide
  omega)
 exact aal d e
theorem OQ {l:List Int} (d:Dg l) (t:Tm l) (h:nv l<1361129467683753853853498429727072845824):l.length≤17:=by
 by_cases q:l=[]
 ·rw [q];simp
 ·have h1:=Fk d t q
  apply Classical.byContradiction
  intro hn
  have:=lF (show 17≤l.length-1 by omega)
  have:(256:Int)^17=87112285931760246646623899502532662132736:=by decide
  omega
theorem d1 {p:List Int} (d:Dg p):Dg (p++[1]):=d.app (Dg.cons.2 ⟨by decide,Dg.nil⟩)
def SQ (s:List Int):Prop:=Dg s∧Tm s∧nv s<1361129467683753853853498429727072845824
theorem OR {s p r:List Int} (hs:Dg s) (hp:Dg p) (hr:Dg r):SQ (DN s p r)∧nv (DN s p r)%1361129467683753853853498429727072845819=(nv s+nv (p++[1]))*nv r%1361129467683753853853498429727072845819:=by
 obtain ⟨a1,a2⟩:=tq hs (d1 hp)
 obtain ⟨b1,b2,b3⟩:=qk a1
 obtain ⟨c1,c2⟩:=AR b1 hr
 obtain ⟨e1,e2,e3⟩:=qk c1
 obtain ⟨f1,f2,f3⟩:=afZ (nv (m8 (uj (m8 (je s (p++[1]))) r))).toNat
 have hl:=OD (nv (m8 (uj (m8 (je s (p++[1]))) r))).toNat
 have hm:=Tz (nv (m8 (uj (m8 (je s (p++[1]))) r))).toNat
 have hn:=eD e1
 unfold DN P7
 refine ⟨⟨f1,f2,by rw [f3];omega⟩,?_⟩
 rw [f3, ←a2, ←b3, ←c2, ←e3]
 omega
theorem SQ.nil:SQ []:=⟨Dg.nil,trivial,by decide⟩
theorem r8 {key text:List Int} (dk:Dg key) (dt:Dg text):∀j,SQ (qn key text j)
 |0=>SQ.nil
 |j+1=>(OR (r8 dk dt j).1 ((dt.drop _).take _) (HM dk)).1
theorem HO (l:List Int):(m8 l).length≤l.length:=by unfold m8;rw [List.length_take];omega
theorem Dj {ob:Bool} {s p r:List Int} (h:ob=true) (hs:SQ s) (hp:Dg p) (hl:p.length≤16) (hr:Dg r) (hrl:r.length=16):mkO ob s p r=true:=by
 obtain ⟨ds,ts,vs⟩:=hs
 have ls:=OQ ds ts vs
 obtain ⟨a1,a2⟩:=tq ds (d1 hp)
 obtain ⟨b1,b2,b3⟩:=qk a1
 obtain ⟨c1,c2⟩:=AR b1 hr
 obtain ⟨e1,e2,e3⟩:=qk c1
 have DC:(je s (p++[1])).length≤18:=by
  rw [j7]
  have:=(ql s (p++[1])).2
  have hm:AQ s (p++[1])=max s.length (p.length+1):=by unfold AQ;rw [List.length_append];rfl
  omega
 have l1:=HO (je s (p++[1]))
 have l2:=AS b1 hr
 have l3:=HO (uj (m8 (je s (p++[1]))) r)
 have ht:TL (m8 (uj (m8 (je s (p++[1]))) r))=true:=by unfold TL;exact @decide_eq_true _ (Classical.propDecidable _) e2
 unfold mkO
 simp only [h,aY.2 hp,aY.2 ds,aY.2 (d1 hp),aY.2 b1,aY.2 hr,aY.2 e1,ht,cG (show p.length<274877906944 by omega),hrl]
 simp [av]
 omega
theorem TN {key text:List Int} (hk:key.length=32) (dk:Dg key) (dt:Dg text) (ht:text.length<100000000):
  Tr Tryz.prog none 0 (aA 8 OO) (HK key text (rQ key) [] 0) .normal (HK key text (rQ key) (qn key text ((text.length+15)/16)) ((16*((text.length+15)/16):Nat):Int)):=by
 have j9:=Tr.loop (P:=Tryz.prog) (ro:=none) (k:=0) 4 (c:=aA 8 OO) (by kernel_rfl) (fun j:Nat=>HK key text (rQ key) (qn key text j) ((16*j:Nat):Int)) ((text.length+15)/16)
  (s':=HK key text (rQ key) (qn key text ((text.length+15)/16)) ((16*((text.length+15)/16):Nat):Int)) (fun j hj=>?_) ?_
 ·exact j9
 ·have hs:=r8 dk dt j
  have hJ:J (((16*j:Nat):Int)+16)=((16*(j+1):Nat):Int):=by rw [dy (by omega) (by omega)];omega
  have hp:Dg ((text.drop (16*j)).take 16):=(dt.drop _).take _
  have DC:((text.drop (16*j)).take 16).length≤16:=by rw [List.length_take];omega
  have hst:qn key text (j+1)=DN (qn key text j) ((text.drop (16*j)).take 16) (rQ key):=rfl
  by_cases q:16*(j+1)≤text.length
  ·have e:=akC key text (rQ key) (qn key text j) ((16*j:Nat):Int)
   have hA:pcA text ((16*j:Nat):Int)=(text.drop (16*j)).take 16:=by
    unfold pcA
    rw [hJ,Int.toNat_natCast,Int.toNat_natCast,show 16*(j+1)-16*j=16 by omega]
   rw [hJ,hA,Dj (ob:=slA _ _ _) (by
    unfold slA
    rw [hJ]
    simp [av]
    omega) hs hp DC (HM dk) (OP key)] at e
   rw [hst]
   exact Tr.post (Tr.cut (tv _) 60 _ 3 (by omega) e rfl) (bq.same rfl rfl)
  ·have e:=akD key text (rQ key) (qn key text j) ((16*j:Nat):Int)
   have hA:pcZ text ((16*j:Nat):Int)=(text.drop (16*j)).take 16:=by
    unfold pcZ
    rw [Int.toNat_natCast,List.take_of_length_le (by rw [List.length_drop];omega),List.take_of_length_le (by rw [List.length_drop];omega)]
   rw [hJ,hA,Dj (ob:=slZ _ _ _) (by
    unfold slZ
    simp [av]
    omega) hs hp DC (HM dk) (OP key)] at e
   rw [hst]
   exact Tr.post (Tr.cut (tv _) 60 _ 3 (by omega) e rfl) (bq.same rfl rfl)
 ·have e:=aaj key text (rQ key) (qn key text ((text.length+15)/16)) ((16*((text.length+15)/16):Nat):Int)
  rw [decide_eq_false (show ¬((16*((text.length+15)/16):Nat):Int)<text.length by omega)] at e
  exact Tr.cut (tv _) 60 _ 3 (by omega) e rfl
theorem HP {s:List Int} (h:SQ s):Dg (lH s)∧(lH s).length<1000:=by
 obtain ⟨ds,ts,vs⟩:=h
 have ls:=OQ ds ts vs
 obtain ⟨a1,a2⟩:=tq ds d5
 have hm:=(ql s [5]).2
 have hm2:AQ s [5]=max s.length 1:=rfl
 unfold lH
 split
 ·have Ap:=a1.getD 16
  rw [cY Ap.1]
  exact ⟨a1.set _ (by omega),by rw [List.length_set,j7];omega⟩
 ·exact ⟨ds,by omega⟩
theorem Jt {key k a:List Int} (ha:16≤a.length) {args:List SV} (ht:∀s' x,bf Tryz.prog none 0 ((atoms (aE Tryz.f119)).drop 15) (uo key k a) x s'→bf Tryz.prog none 0 (atoms (aE Tryz.f119)) ⟨aO Tryz.f119.ntmps args,[],true⟩ x s'):
  ai Tryz.prog 119 args [] (.agg [.ints .u8 16 (aak a)]) []:=
 ai.cu (tv fun i=>if i=101 then some true else none) 200 15 0 Tryz.func119 (by simp) rfl ht
  (p:=[0,1,2,3,4,5,6,7,8,9,10,11,12,13,14,15].foldl (fun o i=>aa (aa (aa o (decide (((i:Nat):Int)<(a.length:Int)))) (cL ((i:Nat):Int) a.length)) (decide (i<a.length))) true) (by kernel_rfl)
  (by
   have h:∀i:Nat,i<16→decide ((i:Int)<(a.length:Int))=true∧cL (i:Int) a.length=true∧decide (i<a.length)=true:=fun i hi=>⟨decide_eq_true (by omega),aK (by omega) (by omega),decide_eq_true (by omega)⟩
   simp only [List.foldl,(h 0 (by decide)).1,(h 0 (by decide)).2.1,(h 0 (by decide)).2.2,(h 1 (by decide)).1,(h 1 (by decide)).2.1,(h 1 (by decide)).2.2,(h 2 (by decide)).1,(h 2 (by decide)).2.1,(h 2 (by decide)).2.2,(h 3 (by decide)).1,(h 3 (by decide)).2.1,(h 3 (by decide)).2.2,(h 4 (by decide)).1,(h 4 (by decide)).2.1,(h 4 (by decide)).2.2,(h 5 (by decide)).1,(h 5 (by decide)).2.1,(h 5 (by decide)).2.2,(h 6 (by decide)).1,(h 6 (by decide)).2.1,(h 6 (by decide)).2.2,(h 7 (by decide)).1,(h 7 (by decide)).2.1,(h 7 (by decide)).2.2,(h 8 (by decide)).1,(h 8 (by decide)).2.1,(h 8 (by decide)).2.2,(h 9 (by decide)).1,(h 9 (by decide)).2.1,(h 9 (by decide)).2.2,(h 10 (by decide)).1,(h 10 (by decide)).2.1,(h 10 (by decide)).2.2,(h 11 (by decide)).1,(h 11 (by decide)).2.1,(h 11 (by decide)).2.2,(h 12 (by decide)).1,(h 12 (by decide)).2.1,(h 12 (by decide)).2.2,(h 13 (by decide)).1,(h 13 (by decide)).2.1,(h 13 (by decide)).2.2,(h 14 (by decide)).1,(h 14 (by decide)).2.1,(h 14 (by decide)).2.2,(h 15 (by decide)).1,(h 15 (by decide)).2.1,(h 15 (by decide)).2.2];rfl) rfl rfl
theorem OS {key text:List Int} (hk:key.length=32) (dk:Dg key) (dt:Dg text) (ht:text.length<100000000):
  ai Tryz.prog 119 [.agg [.ints .u8 32 key],.ro false .u8 text] [] (.agg [.ints .u8 16 (HL key text)]) []:=by
 have hs:=r8 dk dt ((text.length+15)/16)
 have hl:=TN hk dk dt ht
 have hh:=TM key text
 rw [aG hk,aY.2 (dk.take 16)] at hh
 unfold HL
 generalize qn key text ((text.length+15)/16)=s at hs hl
 obtain ⟨f1,f2⟩:=HP hs
 obtain ⟨ds,ts,vs⟩:=hs
 have ls:=OQ ds ts vs
 have akK:(nh key).length=16:=by unfold nh;rw [List.length_take,List.length_drop,hk];rfl
 have akL:Dg (nh key):=(dk.drop 16).take 16
 have ha:16≤(je (lH s) (nh key)).length:=by
  rw [j7]
  have:=(ql (lH s) (nh key)).1
  unfold AQ at this
  omega
 have DC:=j7 s [5]
 have hgt:dK s=true:=aY.2 ds
 refine Jt (key:=key) (k:=nh key) ha fun s' x h=>?_
 refine bf.items (tv _) 60 8 _ 3 (by simp) hh rfl (by decide) ?_
 refine bf.pre (s1:=HK key text (rQ key) [] 0) (bf.item 8 (by decide) hl ?_) ((bq.afI 8 false .i64 rfl).trans (bq.same rfl rfl)) (by decide)
 have tail:∀f,bf Tryz.prog none 0 ((atoms OO).drop 12) (mkU f key (lH s)) x s':=fun f=>by
  have e:=akJ key (lH s) f
  have ho:muO key (lH s) (nh key)=true:=by
   unfold muO
   rw [akK,hk,aY.2 f1,aY.2 akL,decide_eq_true (show (lH s).length<1000000 by omega)];rfl
  rw [ho] at e
  refine bf.items (tv _) 60 3 _ 4 (by omega) e rfl (by decide) ?_
  rw [List.drop_drop]
  exact h
 by_cases q:17≤jd s [5]
 ·have hmv:mvO s=true:=by
   unfold mvO
   rw [hgt,decide_eq_true (show s.length<1000000 by omega),decide_eq_true (show ((jd s [5]:Nat):Int)≥17 by omega),aK (by omega) (by omega),decide_eq_true (show 16<jd s [5] by omega)];rfl
  by_cases q4:4≤(je s [5]).getD 16 0
  ·have OT:lH s=(je s [5]).set 16 (((je s [5]).getD 16 0).tmod 4):=by unfold lH;rw [if_pos ⟨q,q4⟩]
   have e:=akF key (rQ key) s ((16*((text.length+15)/16):Nat):Int) text
   rw [hmv,decide_eq_true (show (je s [5]).getD 16 0≥4 from q4),aK (by omega) (by omega),decide_eq_true (show 16<jd s [5] by omega),decide_eq_true DC] at e
   refine bf.items (Fl _) 60 3 _ 5 (by omega) e rfl (by decide) ?_
   rw [List.drop_drop]
   have t:=tail true
   rw [OT] at t
   exact bf.pre t (bq.Xm (by omega) (by omega) (akI key (rQ key) s) (by rw [List.length_set,DC,decide_eq_true rfl];rfl)) (by decide)
  ·have OT:lH s=s:=by unfold lH;rw [if_neg (fun h=>q4 h.2)]
   have e:=akG key (rQ key) s ((16*((text.length+15)/16):Nat):Int) text
   rw [hmv,decide_eq_false (show ¬(je s [5]).getD 16 0≥4 from q4)] at e
   refine bf.items (Fl _) 60 3 _ 2 (by omega) e rfl (by decide) ?_
   rw [List.drop_drop]
   have t:=tail false
   rw [OT] at t
   exact t
 ·have OT:lH s=s:=by unfold lH;rw [if_neg (fun h=>q h.1)]
  have e:=akH key (rQ key) s ((16*((text.length+15)/16):Nat):Int) text
  rw [hgt,decide_eq_true (show s.length<1000000 by omega),decide_eq_false (show ¬((jd s [5]:Nat):Int)≥17 by omega)] at e
  refine bf.items (Fl _) 60 3 _ 2 (by omega) e rfl (by decide) ?_
  rw [List.drop_drop]
  have t:=tail false
  rw [OT] at t
  exact t
end Go.Proofs.YtibfpjeeanppjaaGreat.R4
