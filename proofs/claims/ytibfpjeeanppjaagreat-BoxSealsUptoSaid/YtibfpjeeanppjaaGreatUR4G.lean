/- This file proves the contract of Mark of the reference's chapter 4. Conditions: keys of 32 bytes; texts of bytes; lengths that memory bears. -/
import Derived.Test.YtibfpjeeanppjaaGreatUR4F
import Derived.Test.YtibfpjeeanppjaaGreatUKdB
set_option linter.all false
set_option maxRecDepth 100000
namespace Go.Proofs.YtibfpjeeanppjaaGreat.R4
open Go Go.Sy Sh
noncomputable def Mw:Code:=aH Tryz.f119
noncomputable def YD (f:Nat→Option Bool):bK:=mk (P:=Tryz.prog) [Ms,Mr,Tj,xg,fe] [] f
theorem rH (f:Nat→Option Bool):ag Tryz.prog (YD f):=ai _ aF.nil _ _
noncomputable def mk2 (f:Nat→Option Bool):bK:=mk (P:=Tryz.prog) [ab5] [] f
theorem C5 (f:Nat→Option Bool):ag Tryz.prog (mk2 f):=ai _ aF.nil _ _
def rQ (k:List Int):List Int:=[k.getD 0 0,k.getD 1 0,k.getD 2 0,(k.getD 3 0).tmod 16,J (J ((k.getD 4 0).tdiv 4)*4),k.getD 5 0,k.getD 6 0,(k.getD 7 0).tmod 16,J (J ((k.getD 8 0).tdiv 4)*4),k.getD 9 0,k.getD 10 0,(k.getD 11 0).tmod 16,J (J ((k.getD 12 0).tdiv 4)*4),k.getD 13 0,k.getD 14 0,(k.getD 15 0).tmod 16]
noncomputable def E8 (key text r s:List Int) (i:Int):St:=⟨slotsOf 113 [(1,.ro false .u8 text),(2,.ptr 0 0 0),(4,.ptr 1 0 0),(5,.sl 2 0 0 1 16 16 false true),(8,.ro false .i64 s),(9,.int .i64 i)],[.b [.ints .u8 32 key],.b [.ints .u8 16 (List.replicate 16 0)],.b [.ints .i64 16 r]],true⟩
noncomputable def agT (key text r:List Int):St:=⟨slotsOf 113 [(1,.ro false .u8 text),(2,.ptr 0 0 0),(4,.ptr 1 0 0),(5,.sl 2 0 0 1 16 16 false true),(8,.nl (.slice none 0 0)),(9,.int .i64 0)],[.b [.ints .u8 32 key],.b [.ints .u8 16 (List.replicate 16 0)],.b [.ints .i64 16 r]],true⟩
noncomputable def zj (s p r:List Int):List Int:=Nz (lY (sv (lY (iE s (p++[1]))) r))
noncomputable def mkO (ob:Bool) (s p r:List Int):Bool:=
 let A:=aa ob (aa true (iH p&&decide (p.length<1000000)))
 let B:=aa A (tK p.length p.length)
 let C:=aa B (aa (aa true (aa (decide ((p++[1]).length=p.length+1)&&(decide (p.length+1≤p.length+1)&&true)) (decide ((p++[1]).length=p.length+1)))) (iH s&&iH (p++[1])&&decide (s.length<1000000)&&decide ((p++[1]).length<1000000)))
 let D:=aa C (aa true (decide ((iE s (p++[1])).length<1000000)))
 let E:=aa D (aa (aa true (aa (decide (r.length=16)&&true) (decide (r.length=16)))) (iH (lY (iE s (p++[1])))&&iH r&&decide ((lY (iE s (p++[1]))).length<1000000)&&decide (r.length<1000000)))
 let F:=aa E (aa true (decide ((sv (lY (iE s (p++[1]))) r).length<1000000)))
 aa F (aa true (iH (lY (sv (lY (iE s (p++[1]))) r))&&QW (lY (sv (lY (iE s (p++[1]))) r))&&decide ((lY (sv (lY (iE s (p++[1]))) r)).length<100000)))
def pcA (t:List Int) (i:Int):List Int:=(t.drop i.toNat).take ((J (i+16)).toNat-i.toNat)
def pcZ (t:List Int) (i:Int):List Int:=(t.drop i.toNat).take (t.length-i.toNat)
def slA (ob:Bool) (t:List Int) (i:Int):Bool:=aa ob (aa true (aa (decide (0≤J (i+16))&&decide (J (i+16)≤(t.length:Int))) (decide (0≤i)&&decide (i≤((J (i+16)).toNat:Int)))))
def slZ (ob:Bool) (t:List Int) (i:Int):Bool:=aa ob (aa true (aa (true&&decide ((t.length:Int)≤(t.length:Int))) (decide (0≤i)&&decide (i≤((t.length:Int).toNat:Int)))))
section
variable (key text r s:List Int) (i:Int)
theorem QX:(az Tryz.prog (YD fun _=>none) 60 0 8 (atoms Mw) ⟨aT Tryz.f119.ntmps [.agg [.ints .u8 32 (aO 32 key)],.ro false .u8 text],[],true⟩).bind (St.cut [1,2,4,5,8,9] 3)=
  some {agT (aO 32 key) text (rQ (aO 32 key)) with ob:=aa true (aa true (iH ((aO 32 key).take 16)&&true))}:=by kernel_rfl
theorem ag0:(exec Tryz.prog (YD fun i=>if i=46||i=63 then some true else if i=54 then some false else none) 60 0 (inner (inner (ak 8 Mw))) (E8 key text r s i)).bind (fun r=>(r.2.cut [1,2,4,5,8,9] 3).map fun q=>(r.1,q))=
  some (.normal,{E8 key text r (zj s (pcA text i) r) (J (i+16)) with ob:=mkO (slA (aa (aa true (decide (i<text.length))) (!decide (J (i+16)>text.length))) text i) s (pcA text i) r}):=by kernel_rfl
theorem ag1:(exec Tryz.prog (YD fun i=>if i=46||i=63||i=54 then some true else none) 60 0 (inner (inner (ak 8 Mw))) (E8 key text r s i)).bind (fun r=>(r.2.cut [1,2,4,5,8,9] 3).map fun q=>(r.1,q))=
  some (.normal,{E8 key text r (zj s (pcZ text i) r) (J (i+16)) with ob:=mkO (slZ (aa (aa true (decide (i<text.length))) (decide (J (i+16)>text.length))) text i) s (pcZ text i) r}):=by kernel_rfl
theorem Xe:(exec Tryz.prog (YD fun i=>if i=46 then some false else none) 60 0 (inner (inner (ak 8 Mw))) (E8 key text r s i)).bind (fun r=>(r.2.cut [1,2,4,5,8,9] 3).map fun q=>(r.1,q))=
  some (.exit 4,{E8 key text r s i with ob:=aa true (!decide (i<text.length))}):=by kernel_rfl
end
noncomputable def mkV (key r s:List Int):St:=⟨slotsOf 113 [(2,.ptr 0 0 0),(4,.ptr 1 0 0),(8,.sl 4 0 0 1 (iD s [5]) (iD s [5]) false true)],[.b [.ints .u8 32 key],.b [.ints .u8 16 (List.replicate 16 0)],.b [.ints .i64 16 r],.b [.ints .i64 1 [5]],.b [.ints .i64 (iD s [5]) ((iE s [5]).set 16 (((iE s [5]).getD 16 0).tmod 4))]],true⟩
noncomputable def mkU (f:Bool) (key s:List Int):St:=⟨slotsOf 113 [(2,.ptr 0 0 0),(4,.ptr 1 0 0),(8,.ro f .i64 s)],[.b [.ints .u8 32 key],.b [.ints .u8 16 (List.replicate 16 0)]],true⟩
noncomputable def sy (key k a:List Int):St:=⟨slotsOf 113 [(4,.ptr 1 0 0),(13,.ro true .i64 a),(14,.ptr 3 0 0),(15,.int .i64 0)],[.b [.ints .u8 32 key],.b [.ints .u8 16 (List.replicate 16 0)],.b [.ints .i64 k.length k],.b [.ints .u8 16 (List.replicate 16 0)]],true⟩
def lR (key:List Int):List Int:=(key.drop 16).take 16
def mvO (s:List Int):Bool:=aa (aa (aa (aa true (aa true (iH s&&true&&decide (s.length<1000000)&&true))) (decide (((iD s [5]:Nat):Int)≥17))) (cK 16 (iD s [5]))) (decide (16<iD s [5]))
def muO (key s k:List Int):Bool:=aa (aa true (aa (aa (true&&decide (32≤key.length)) (decide (k.length=16))) (iH k&&decide (k.length<1000000))))
 (aa (aa true (aa (decide (k.length=k.length)&&(decide (k.length≤k.length)&&true)) (decide (k.length=k.length)))) (iH s&&iH k&&decide (s.length<1000000)&&decide (k.length<1000000)))
section
variable (key r s a:List Int) (i:Int) (f:Bool)
theorem ag3 (text:List Int):(az Tryz.prog (mk2 fun i=>if i=77||i=82 then some true else none) 60 0 3 ((atoms Mw).drop 9) (E8 key text r s i)).bind (St.cut [2,4,8] 5)=
  some {mkV key r s with ob:=aa (aa (aa (aa (aa (mvO s) (decide ((iE s [5]).getD 16 0≥4))) (cK 16 (iD s [5]))) (decide (16<iD s [5]))) (cK 16 (iD s [5]))) (decide (16<iD s [5])&&decide ((iE s [5]).length=iD s [5]))}:=by kernel_rfl
theorem ag4 (text:List Int):(az Tryz.prog (mk2 fun i=>if i=77 then some true else if i=82 then some false else none) 60 0 3 ((atoms Mw).drop 9) (E8 key text r s i)).bind (St.cut [2,4,8] 2)=
  some {mkU false key s with ob:=aa (mvO s) (!decide ((iE s [5]).getD 16 0≥4))}:=by kernel_rfl
theorem ag5 (text:List Int):(az Tryz.prog (mk2 fun i=>if i=77 then some false else none) 60 0 3 ((atoms Mw).drop 9) (E8 key text r s i)).bind (St.cut [2,4,8] 2)=
  some {mkU false key s with ob:=aa (aa true (aa true (iH s&&true&&decide (s.length<1000000)&&true))) (!decide (((iD s [5]:Nat):Int)≥17))}:=by kernel_rfl
theorem ag6:tI 4 2 (mkV key r s)=some (mkU true key ((iE s [5]).set 16 (((iE s [5]).getD 16 0).tmod 4)),aa (decide (((iE s [5]).set 16 (((iE s [5]).getD 16 0).tmod 4)).length=iD s [5])) (decide (iD s [5]=iD s [5])&&true)):=by kernel_rfl
theorem ag7:(az Tryz.prog (YD fun i=>none) 60 0 3 ((atoms Mw).drop 12) (mkU f key s)).bind (St.cut [4,13,14,15] 4)=
  some {sy key (lR key) (iE s (lR key)) with ob:=muO key s (lR key)}:=by kernel_rfl
end
def kM (s:List Int):List Int:=if 17≤iD s [5]∧4≤(iE s [5]).getD 16 0 then (iE s [5]).set 16 (((iE s [5]).getD 16 0).tmod 4) else s
def Xf (a:List Int):List Int:=(List.range 16).map fun i=>IntKind.u8.wrap (a.getD i 0)
noncomputable def o9 (key text:List Int):Nat→List Int
 |0=>[]
 |j+1=>zj (o9 key text j) ((text.drop (16*j)).take 16) (rQ key)
noncomputable def E9 (key text:List Int):List Int:=Xf (iE (kM (o9 key text ((text.length+15)/16))) (lR key))
theorem Mx (k:List Int):(rQ k).length=16:=rfl
theorem Fa {k:List Int} (d:Dg k):Dg (rQ k):=by
 have h:=fun i=>d.getD i
 have m:∀i,0≤(k.getD i 0).tmod 16∧(k.getD i 0).tmod 16<256:=fun i=>by rw [cT (h i).1];have:=h i;omega
 have q:∀i,0≤J (J ((k.getD i 0).tdiv 4)*4)∧J (J ((k.getD i 0).tdiv 4)*4)<256:=fun i=>by
  have:=h i
  rw [dY (h i).1,bu (n:=k.getD i 0/4) (by omega) (by omega),bu (by omega) (by omega)];omega
 unfold rQ
 simp only [Dg.cons]
 exact ⟨h 0,h 1,h 2,m 3,q 4,h 5,h 6,m 7,q 8,h 9,h 10,m 11,q 12,h 13,h 14,m 15,Dg.nil⟩
theorem Xg {v:Int} {l:List Int} (d:Dg l) (h:nv l=v):Dg (Mn v)∧Tm (Mn v)∧nv (Mn v)=v:=by
 obtain ⟨h1,h2,h3⟩:=o6 d
 rw [←h, ←QF d]
 exact ⟨h1,h2,h3⟩
theorem Fb:∀(n:Nat) (v:Int),0≤v→v<256^n→∃l,Dg l∧nv l=v
 |0,v,h0,h1=>⟨[],Dg.nil,by simp at h1;simp [nv];omega⟩
 |n+1,v,h0,h1=>by
  rw [Int.pow_succ] at h1
  obtain ⟨l,d,e⟩:=Fb n (v/256) (by omega) (by omega)
  exact ⟨v%256::l,Dg.cons.2 ⟨by omega,d⟩,by rw [nv,e];omega⟩
theorem acn (v:Nat):Dg (Mn (E3 v:Nat))∧Tm (Mn (E3 v:Nat))∧nv (Mn (E3 v:Nat))=(E3 v:Nat):=by
 have h:=Mm v
 obtain ⟨l,d,e⟩:=Fb 17 (E3 v:Nat) (by omega) (by
  have:(256:Int)^17=87112285931760246646623899502532662132736:=by decide
  omega)
 exact Xg d e
theorem My {l:List Int} (d:Dg l) (t:Tm l) (h:nv l<1361129467683753853853498429727072845824):l.length≤17:=by
 by_cases q:l=[]
 ·rw [q];simp
 ·have h1:=C4 d t q
  apply Classical.byContradiction
  intro hn
  have:=kJ (show 17≤l.length-1 by omega)
  have:(256:Int)^17=87112285931760246646623899502532662132736:=by decide
  omega
theorem d1 {p:List Int} (d:Dg p):Dg (p++[1]):=d.app (Dg.cons.2 ⟨by decide,Dg.nil⟩)
def SQ (s:List Int):Prop:=Dg s∧Tm s∧nv s<1361129467683753853853498429727072845824
theorem Mz {s p r:List Int} (hs:Dg s) (hp:Dg p) (hr:Dg r):SQ (zj s p r)∧nv (zj s p r)%1361129467683753853853498429727072845819=(nv s+nv (p++[1]))*nv r%1361129467683753853853498429727072845819:=by
 obtain ⟨a1,a2⟩:=rF hs (d1 hp)
 obtain ⟨b1,b2,b3⟩:=o6 a1
 obtain ⟨c1,c2⟩:=yO b1 hr
 obtain ⟨e1,e2,e3⟩:=o6 c1
 obtain ⟨f1,f2,f3⟩:=acn (nv (lY (sv (lY (iE s (p++[1]))) r))).toNat
 have hl:=Mm (nv (lY (sv (lY (iE s (p++[1]))) r))).toNat
 have hm:=QE (nv (lY (sv (lY (iE s (p++[1]))) r))).toNat
 have hn:=ei e1
 unfold zj Nz
 refine ⟨⟨f1,f2,by rw [f3];omega⟩,?_⟩
 rw [f3, ←a2, ←b3, ←c2, ←e3]
 omega
theorem SQ.nil:SQ []:=⟨Dg.nil,trivial,by decide⟩
theorem qv {key text:List Int} (dk:Dg key) (dt:Dg text):∀j,SQ (o9 key text j)
 |0=>SQ.nil
 |j+1=>(Mz (qv dk dt j).1 ((dt.drop _).take _) (Fa dk)).1
theorem Fc (l:List Int):(lY l).length≤l.length:=by unfold lY;rw [List.length_take];omega
theorem A8 {ob:Bool} {s p r:List Int} (h:ob=true) (hs:SQ s) (hp:Dg p) (hl:p.length≤16) (hr:Dg r) (hrl:r.length=16):mkO ob s p r=true:=by
 obtain ⟨ds,ts,vs⟩:=hs
 have ls:=My ds ts vs
 obtain ⟨a1,a2⟩:=rF ds (d1 hp)
 obtain ⟨b1,b2,b3⟩:=o6 a1
 obtain ⟨c1,c2⟩:=yO b1 hr
 obtain ⟨e1,e2,e3⟩:=o6 c1
 have Bo:(iE s (p++[1])).length≤18:=by
  rw [jP]
  have:=(o7 s (p++[1])).2
  have hm:yN s (p++[1])=max s.length (p.length+1):=by unfold yN;rw [List.length_append];rfl
  omega
 have l1:=Fc (iE s (p++[1]))
 have l2:=yP b1 hr
 have l3:=Fc (sv (lY (iE s (p++[1]))) r)
 have ht:QW (lY (sv (lY (iE s (p++[1]))) r))=true:=by unfold QW;exact @decide_eq_true _ (Classical.propDecidable _) e2
 unfold mkO
 simp only [h,bF.2 hp,bF.2 ds,bF.2 (d1 hp),bF.2 b1,bF.2 hr,bF.2 e1,ht,cr (show p.length<274877906944 by omega),hrl]
 simp [au]
 omega
theorem QY {key text:List Int} (hk:key.length=32) (dk:Dg key) (dt:Dg text) (ht:text.length<100000000):
  Tr Tryz.prog none 0 (ak 8 Mw) (E8 key text (rQ key) [] 0) .normal (E8 key text (rQ key) (o9 key text ((text.length+15)/16)) ((16*((text.length+15)/16):Nat):Int)):=by
 have jS:=Tr.loop (P:=Tryz.prog) (ro:=none) (k:=0) 4 (c:=ak 8 Mw) (by kernel_rfl) (fun j:Nat=>E8 key text (rQ key) (o9 key text j) ((16*j:Nat):Int)) ((text.length+15)/16)
  (s':=E8 key text (rQ key) (o9 key text ((text.length+15)/16)) ((16*((text.length+15)/16):Nat):Int)) (fun j hj=>?_) ?_
 ·exact jS
 ·have hs:=qv dk dt j
  have hJ:J (((16*j:Nat):Int)+16)=((16*(j+1):Nat):Int):=by rw [bu (by omega) (by omega)];omega
  have hp:Dg ((text.drop (16*j)).take 16):=(dt.drop _).take _
  have Bo:((text.drop (16*j)).take 16).length≤16:=by rw [List.length_take];omega
  have hst:o9 key text (j+1)=zj (o9 key text j) ((text.drop (16*j)).take 16) (rQ key):=rfl
  by_cases q:16*(j+1)≤text.length
  ·have e:=ag0 key text (rQ key) (o9 key text j) ((16*j:Nat):Int)
   have hA:pcA text ((16*j:Nat):Int)=(text.drop (16*j)).take 16:=by
    unfold pcA
    rw [hJ,Int.toNat_natCast,Int.toNat_natCast,show 16*(j+1)-16*j=16 by omega]
   rw [hJ,hA,A8 (ob:=slA _ _ _) (by
    unfold slA
    rw [hJ]
    simp [au]
    omega) hs hp Bo (Fa dk) (Mx key)] at e
   rw [hst]
   exact Tr.post (Tr.cut (rH _) 60 _ 3 (by omega) e rfl) (aU.same rfl rfl)
  ·have e:=ag1 key text (rQ key) (o9 key text j) ((16*j:Nat):Int)
   have hA:pcZ text ((16*j:Nat):Int)=(text.drop (16*j)).take 16:=by
    unfold pcZ
    rw [Int.toNat_natCast,List.take_of_length_le (by rw [List.length_drop];omega),List.take_of_length_le (by rw [List.length_drop];omega)]
   rw [hJ,hA,A8 (ob:=slZ _ _ _) (by
    unfold slZ
    simp [au]
    omega) hs hp Bo (Fa dk) (Mx key)] at e
   rw [hst]
   exact Tr.post (Tr.cut (rH _) 60 _ 3 (by omega) e rfl) (aU.same rfl rfl)
 ·have e:=Xe key text (rQ key) (o9 key text ((text.length+15)/16)) ((16*((text.length+15)/16):Nat):Int)
  rw [decide_eq_false (show ¬((16*((text.length+15)/16):Nat):Int)<text.length by omega)] at e
  exact Tr.cut (rH _) 60 _ 3 (by omega) e rfl
theorem Ff {s:List Int} (h:SQ s):Dg (kM s)∧(kM s).length<1000:=by
 obtain ⟨ds,ts,vs⟩:=h
 have ls:=My ds ts vs
 obtain ⟨a1,a2⟩:=rF ds d5
 have hm:=(o7 s [5]).2
 have hm2:yN s [5]=max s.length 1:=rfl
 unfold kM
 split
 ·have yC:=a1.getD 16
  rw [cT yC.1]
  exact ⟨a1.set _ (by omega),by rw [List.length_set,jP];omega⟩
 ·exact ⟨ds,by omega⟩
theorem GL {key k a:List Int} (ha:16≤a.length) {args:List SV} (ht:∀s' x,aG Tryz.prog none 0 ((atoms (aH Tryz.f119)).drop 15) (sy key k a) x s'→aG Tryz.prog none 0 (atoms (aH Tryz.f119)) ⟨aT Tryz.f119.ntmps args,[],true⟩ x s'):
  aj Tryz.prog 119 args [] (.agg [.ints .u8 16 (Xf a)]) []:=
 aj.cg (rH fun i=>if i=101 then some true else none) 200 15 0 Tryz.func119 (by simp) rfl ht
  (p:=[0,1,2,3,4,5,6,7,8,9,10,11,12,13,14,15].foldl (fun o i=>aa (aa (aa o (decide (((i:Nat):Int)<(a.length:Int)))) (cK ((i:Nat):Int) a.length)) (decide (i<a.length))) true) (by kernel_rfl)
  (by
   have h:∀i:Nat,i<16→decide ((i:Int)<(a.length:Int))=true∧cK (i:Int) a.length=true∧decide (i<a.length)=true:=fun i hi=>⟨decide_eq_true (by omega),aK (by omega) (by omega),decide_eq_true (by omega)⟩
   simp only [List.foldl,(h 0 (by decide)).1,(h 0 (by decide)).2.1,(h 0 (by decide)).2.2,(h 1 (by decide)).1,(h 1 (by decide)).2.1,(h 1 (by decide)).2.2,(h 2 (by decide)).1,(h 2 (by decide)).2.1,(h 2 (by decide)).2.2,(h 3 (by decide)).1,(h 3 (by decide)).2.1,(h 3 (by decide)).2.2,(h 4 (by decide)).1,(h 4 (by decide)).2.1,(h 4 (by decide)).2.2,(h 5 (by decide)).1,(h 5 (by decide)).2.1,(h 5 (by decide)).2.2,(h 6 (by decide)).1,(h 6 (by decide)).2.1,(h 6 (by decide)).2.2,(h 7 (by decide)).1,(h 7 (by decide)).2.1,(h 7 (by decide)).2.2,(h 8 (by decide)).1,(h 8 (by decide)).2.1,(h 8 (by decide)).2.2,(h 9 (by decide)).1,(h 9 (by decide)).2.1,(h 9 (by decide)).2.2,(h 10 (by decide)).1,(h 10 (by decide)).2.1,(h 10 (by decide)).2.2,(h 11 (by decide)).1,(h 11 (by decide)).2.1,(h 11 (by decide)).2.2,(h 12 (by decide)).1,(h 12 (by decide)).2.1,(h 12 (by decide)).2.2,(h 13 (by decide)).1,(h 13 (by decide)).2.1,(h 13 (by decide)).2.2,(h 14 (by decide)).1,(h 14 (by decide)).2.1,(h 14 (by decide)).2.2,(h 15 (by decide)).1,(h 15 (by decide)).2.1,(h 15 (by decide)).2.2];rfl) rfl rfl
theorem MA {key text:List Int} (hk:key.length=32) (dk:Dg key) (dt:Dg text) (ht:text.length<100000000):
  aj Tryz.prog 119 [.agg [.ints .u8 32 key],.ro false .u8 text] [] (.agg [.ints .u8 16 (E9 key text)]) []:=by
 have hs:=qv dk dt ((text.length+15)/16)
 have hl:=QY hk dk dt ht
 have hh:=QX key text
 rw [aJ hk,bF.2 (dk.take 16)] at hh
 unfold E9
 generalize o9 key text ((text.length+15)/16)=s at hs hl
 obtain ⟨f1,f2⟩:=Ff hs
 obtain ⟨ds,ts,vs⟩:=hs
 have ls:=My ds ts vs
 have ag8:(lR key).length=16:=by unfold lR;rw [List.length_take,List.length_drop,hk];rfl
 have ag9:Dg (lR key):=(dk.drop 16).take 16
 have ha:16≤(iE (kM s) (lR key)).length:=by
  rw [jP]
  have:=(o7 (kM s) (lR key)).1
  unfold yN at this
  omega
 have Bo:=jP s [5]
 have hgt:iH s=true:=bF.2 ds
 refine GL (key:=key) (k:=lR key) ha fun s' x h=>?_
 refine aG.items (rH _) 60 8 _ 3 (by simp) hh rfl (by decide) ?_
 refine aG.pre (s1:=E8 key text (rQ key) [] 0) (aG.item 8 (by decide) hl ?_) ((aU.ab2 8 false .i64 rfl).trans (aU.same rfl rfl)) (by decide)
 have tail:∀f,aG Tryz.prog none 0 ((atoms Mw).drop 12) (mkU f key (kM s)) x s':=fun f=>by
  have e:=ag7 key (kM s) f
  have ho:muO key (kM s) (lR key)=true:=by
   unfold muO
   rw [ag8,hk,bF.2 f1,bF.2 ag9,decide_eq_true (show (kM s).length<1000000 by omega)];rfl
  rw [ho] at e
  refine aG.items (rH _) 60 3 _ 4 (by omega) e rfl (by decide) ?_
  rw [List.drop_drop]
  exact h
 by_cases q:17≤iD s [5]
 ·have hmv:mvO s=true:=by
   unfold mvO
   rw [hgt,decide_eq_true (show s.length<1000000 by omega),decide_eq_true (show ((iD s [5]:Nat):Int)≥17 by omega),aK (by omega) (by omega),decide_eq_true (show 16<iD s [5] by omega)];rfl
  by_cases q4:4≤(iE s [5]).getD 16 0
  ·have MB:kM s=(iE s [5]).set 16 (((iE s [5]).getD 16 0).tmod 4):=by unfold kM;rw [if_pos ⟨q,q4⟩]
   have e:=ag3 key (rQ key) s ((16*((text.length+15)/16):Nat):Int) text
   rw [hmv,decide_eq_true (show (iE s [5]).getD 16 0≥4 from q4),aK (by omega) (by omega),decide_eq_true (show 16<iD s [5] by omega),decide_eq_true Bo] at e
   refine aG.items (C5 _) 60 3 _ 5 (by omega) e rfl (by decide) ?_
   rw [List.drop_drop]
   have t:=tail true
   rw [MB] at t
   exact aG.pre t (aU.tI (by omega) (by omega) (ag6 key (rQ key) s) (by rw [List.length_set,Bo,decide_eq_true rfl];rfl)) (by decide)
  ·have MB:kM s=s:=by unfold kM;rw [if_neg (fun h=>q4 h.2)]
   have e:=ag4 key (rQ key) s ((16*((text.length+15)/16):Nat):Int) text
   rw [hmv,decide_eq_false (show ¬(iE s [5]).getD 16 0≥4 from q4)] at e
   refine aG.items (C5 _) 60 3 _ 2 (by omega) e rfl (by decide) ?_
   rw [List.drop_drop]
   have t:=tail false
   rw [MB] at t
   exact t
 ·have MB:kM s=s:=by unfold kM;rw [if_neg (fun h=>q h.1)]
  have e:=ag5 key (rQ key) s ((16*((text.length+15)/16):Nat):Int) text
  rw [hgt,decide_eq_true (show s.length<1000000 by omega),decide_eq_false (show ¬((iD s [5]:Nat):Int)≥17 by omega)] at e
  refine aG.items (C5 _) 60 3 _ 2 (by omega) e rfl (by decide) ?_
  rw [List.drop_drop]
  have t:=tail false
  rw [MB] at t
  exact t
end Go.Proofs.YtibfpjeeanppjaaGreat.R4
