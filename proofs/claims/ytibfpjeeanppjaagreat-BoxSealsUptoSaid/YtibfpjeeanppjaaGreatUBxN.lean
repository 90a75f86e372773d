/- This file holds the texts SgR, SgS, BxN, a section each. No conditions beyond those in the theorems. -/
import Derived.Test.YtibfpjeeanppjaaGreatUSxB
import Derived.ChangeSlices
import Derived.WideShapes
import Derived.RowKit
import Derived.Test.YtibfpjeeanppjaaGreatRows
import Derived.Test.YtibfpjeeanppjaaGreatUMh
set_option linter.all false
section
namespace Go.Sy
open Go Go.ChangeShapes Go.WideShapes Go.RowKit
variable {P:Program}
theorem VR.tail {e:Env} {n k:Nat} {bs zs:List Int} {y:Value} (h:bs.length=n+k) (hy:VR e (.ro false .u8 zs) y):VR e (.agg [.ints .u8 n (bs.take n),.ints .u8 k (bs.drop n),.ro false .u8 zs]) (.agg ⟨aV .u8 bs++[y]⟩):=by
 refine ⟨aV .u8 bs++[y],⟨aV .u8 (bs.drop n)++[y],⟨[y],⟨y,[],hy,rfl,rfl⟩,?_⟩,?_⟩,rfl⟩
 ·rw [aJ (by simp;omega)]
 ·rw [aJ (by simp;omega), ←List.append_assoc, ←eP,List.take_append_drop]
end Go.Sy
end
section
namespace Go.Sy
open Go Go.ChangeShapes Go.WideShapes Go.RowKit
variable {P:Program}
theorem zL {H:Type} {enc:TypeId×Value→H} {W:World} {r:Reach} {base base' m:Nat} {t e:TypeId} {v:Value} {d:DataW H} {p:List MemPlace} {held:Bool} (ht:P.underlying t=some (.slice e)) (he:P.underlying e=some (.int .u8)) (hc:P.cellsOf e=1) {B:Nat} (hB:0<B)
  (hval:Value.okWide P W r base t v) (h:DataW.Trod enc P W base' (fun _=>true) held t v d p) (hw:∀elems spare,d= .slice elems spare→elems.length+spare.length<B):∃zs,VR (iI (jZ W) m) (.ro false .u8 zs) v∧(∀z∈zs,0≤z∧z<256)∧zs.length<B:=by
 obtain ⟨a0,Zy,ae1,rfl⟩:=okWide_slice ht hval
 obtain ⟨fuel,hf⟩:=h
 rcases ChangeShapes.open_ints ht he hc hf with ⟨hcs,_⟩|⟨x,l,c,zs,hcs,_,hl,hm,hz,hd,hcell,hwz⟩
 ·simp [Value.cells] at hcs
  obtain ⟨rfl,rfl,rfl⟩:=hcs
  exact ⟨[],.inl ⟨rfl,none,0,rfl,fun _=>rfl⟩,(fun _ h=>by cases h),hB⟩
 ·simp [Value.cells] at hcs
  obtain ⟨rfl,rfl,rfl⟩:=hcs
  obtain ⟨_,hs,c,t',fr,hb⟩:=vQ ht hval
  refine ⟨zs.take Zy,nX.Jp hb hs (by simpa using hz) hl hcell,?_,?_⟩
  ·intro n hn
   have h1:=hwz n (List.mem_of_mem_take hn)
   have h2:0≤n∧n≤255:=by simpa [Lit.wf,IntKind.has,IntKind.min,IntKind.max,IntKind.signed,IntKind.bits] using h1
   omega
  ·obtain ⟨rfl,_⟩:=Prod.mk.inj hd
   have k:=hw _ _ rfl
   simp only [lits,List.length_map] at k
   omega
theorem BM {H:Type} {enc:TypeId×Value→H} {W:World} {r:Reach} {base base' m:Nat} {t T e:TypeId} {fs:Array Field} {i n k:Nat} {v:Value} {d:DataW H} {p:List MemPlace} {held:Bool} (hs:P.underlying t=some (.struct fs))
  (Oz:((List.range k).all fun j=>match fs[i+j]? with|some f=>f.type==T&&f.offset==n+j|none=>false)=true) (hn:P.cellsOf t=n+k) (Si:P.cellsOf T=1) (ht:P.underlying T=some (.slice e)) (he:P.underlying e=some (.int .u8)) (hc:P.cellsOf e=1) {B:Nat} (hB:0<B)
  (hct:(P.cellTypes P.depth t).map (fun ts=>(ts.take n).all (fun u=>isInt P u==some .u8)&&ts.length==n+k&&(List.range k).all fun j=>ts[n+j]? ==some T)=some true)
  (hval:Value.okWide P W r base t v) (h:DataW.Trod enc P W base' (fun _=>true) held t v d p) (hw:∀parts elems spare,d= .agg parts→.slice elems spare∈parts→elems.length+spare.length<B):
  ∃(bs:List Int) (zf:Nat→List Int) (ys:List Value),v= .agg ⟨aV .u8 bs++ys⟩∧bs.length=n∧(∀z∈bs,0≤z∧z<256)∧ys.length=k∧
   ∀j,j<k→∃y,ys[j]? =some y∧VR (iI (jZ W) m) (.ro false .u8 (zf j)) y∧(∀z∈zf j,0≤z∧z<256)∧(zf j).length<B:=by
 have h':∃cs,v= .agg cs∧cs.size=P.cellsOf t∧Row.okWide P W r base t cs:=by
  unfold Value.okWide at hval
  rw [hs] at hval
  exact hval
 obtain ⟨cs,rfl,hsz,ts,hts,_,hall⟩:=h'
 rw [hts] at hct
 simp only [Option.map_some,Option.some.injEq,Bool.and_eq_true,List.all_eq_true,beq_iff_eq,List.mem_range] at hct
 obtain ⟨⟨h1,h2⟩,h3⟩:=hct
 rw [hn] at hsz
 have cell:∀j v,j<n→cs[j]? =some v→∃z:Int,v=Value.int .u8 z∧IntKind.u8.has z:=fun j v hj hi=>by
  obtain ⟨u,hu,hok⟩:=hall j v hi
  rw [h2,Nat.mod_eq_of_lt (by omega)] at hu
  have hk:=h1 u (List.mem_of_getElem? (i:=j) (by rw [List.getElem?_take,if_pos hj];exact hu))
  have hk':P.underlying u=some (.int .u8):=by
   unfold isInt at hk
   split at hk
   ·rename_i hx;cases hk;exact hx
   ·cases hk
  simp only [Cell.okWide,hk',Cell.ok] at hok
  cases v<;>simp_all
 have hex:∀l:List Value,(∀v∈l,∃z:Int,v=Value.int .u8 z∧IntKind.u8.has z)→∃zs:List Int,l=aV .u8 zs∧∀z∈zs,IntKind.u8.has z:=by
  intro l
  induction l with
  |nil=>intro _;exact ⟨[],rfl,by simp⟩
  |cons a l ih=>
   intro hl
   obtain ⟨z,rfl,hz⟩:=hl a (by simp)
   obtain ⟨zs,rfl,hzs⟩:=ih fun v hv=>hl v (by simp [hv])
   refine ⟨z::zs,rfl,fun y hy=>?_⟩
   rcases List.mem_cons.1 hy with rfl|hy
   ·exact hz
   ·exact hzs y hy
 obtain ⟨bs,hbs,hk⟩:=hex (cs.toList.take n) fun v hv=>by
  obtain ⟨j,hj⟩:=List.mem_iff_getElem?.1 hv
  rw [List.getElem?_take] at hj
  split at hj
  ·exact cell j v (by assumption) (by simpa using hj)
  ·cases hj
 have hsp:cs.toList=aV .u8 bs++cs.toList.drop n:=by rw [←hbs,List.take_append_drop]
 obtain ⟨fuel,hf'⟩:=h
 obtain ⟨xs,q,rfl,hxx,hl,vH,hfl⟩:=DataW.trod_struct hs hf'
 obtain ⟨rfl,_⟩:=Prod.mk.inj hxx
 have tail:∀j,j<k→∃zs y,(cs.toList.drop n)[j]? =some y∧VR (iI (jZ W) m) (.ro false .u8 zs) y∧(∀z∈zs,0≤z∧z<256)∧zs.length<B:=by
  intro j hj
  have hy:∃y,cs[n+j]? =some y:=⟨cs[n+j],by rw [Array.getElem?_eq_getElem]⟩
  obtain ⟨y,hy⟩:=hy
  obtain ⟨u,hu,hok⟩:=hall (n+j) y hy
  rw [h2,Nat.mod_eq_of_lt (by omega),h3 j hj] at hu
  cases hu
  have Sj:Value.okWide P W r base T y:=by unfold Value.okWide;rw [ht];exact hok
  have ZA:=List.all_eq_true.1 Oz j (List.mem_range.2 hj)
  cases hfe:fs[i+j]? with
  |none=>rw [hfe] at ZA;cases ZA
  |some f=>
   rw [hfe] at ZA
   simp only [Bool.and_eq_true,beq_iff_eq] at ZA
   obtain ⟨BO,hfo⟩:=ZA
   have hx:=hfl (i+j) f hfe
   have hcs:(Value.agg cs).cells=cs:=rfl
   have ZB:(cs.toList.drop (n+j)).take 1=[y]:=by
    have hy':cs.toList[n+j]? =some y:=by simpa using hy
    obtain ⟨hlt,hg⟩:=List.getElem?_eq_some_iff.1 hy'
    rw [List.drop_eq_getElem_cons hlt,hg];rfl
   obtain ⟨a0,Zy,ae1,rfl⟩:=okWide_slice ht Sj
   rw [hcs,hfo,BO,Si,ZB] at hx
   have hi:i+j<xs.length:=by rw [vH];exact (Array.getElem?_eq_some_iff.1 hfe).1
   rw [List.getElem?_eq_getElem hi] at hx
   obtain ⟨zs,z1,z2,z3⟩:=zL (m:=m) (base:=base) (base':=base') (enc:=enc) (held:=held) (d:=xs[i+j].1) (p:=xs[i+j].2) ht he hc hB Sj ⟨q,hx⟩ (fun elems spare hde=>by
    refine hw _ elems spare rfl (List.mem_map.2 ⟨xs[i+j],List.getElem_mem hi,hde⟩))
   refine ⟨zs,_,?_,z1,z2,z3⟩
   rw [List.getElem?_drop]
   simpa using hy
 have tail':∀j,∃zs,j<k→∃y,(cs.toList.drop n)[j]? =some y∧VR (iI (jZ W) m) (.ro false .u8 zs) y∧(∀z∈zs,0≤z∧z<256)∧zs.length<B:=fun j=>by
  by_cases hj:j<k
  ·obtain ⟨zs,y,h⟩:=tail j hj
   exact ⟨zs,fun _=>⟨y,h⟩⟩
  ·exact ⟨[],fun q=>absurd q hj⟩
 obtain ⟨zf,hzf⟩:=Classical.axiomOfChoice tail'
 have hln:bs.length=n:=by
  have:=congrArg List.length hbs
  rw [av,List.length_take] at this
  simp at this
  omega
 refine ⟨bs,zf,cs.toList.drop n,by rw [←hsp],hln,fun z hz=>?_,by simp;omega,hzf⟩
 have:=hk z hz
 simp [IntKind.has,IntKind.min,IntKind.max,IntKind.signed,IntKind.bits] at this
 omega
end Go.Sy
end
section
namespace Go.Proofs.YtibfpjeeanppjaaGreat.Jo
open Go
theorem Jq {H:Type} (d:DataW H):1≤Rows.uptoBulk d:=by
 cases d with
 |lit l=>cases l<;>simp [Rows.uptoBulk]
 |_=>simp [Rows.uptoBulk]
theorem tW {H:Type}:∀(l:List (DataW H)),l.length≤Rows.uptoBulkAll l
 | []=>by simp
 |d::l=>by
  have:=Jq d
  have:=tW l
  simp only [Rows.uptoBulkAll,List.length_cons];omega
theorem wo {H:Type} {d:DataW H}:∀{l:List (DataW H)},d∈l→Rows.uptoBulk d≤Rows.uptoBulkAll l
 |x::l,h=>by
  simp only [Rows.uptoBulkAll]
  rcases List.mem_cons.1 h with rfl|h
  ·omega
  ·have:=wo h;omega
theorem BN {H:Type} {parts:List (DataW H)} {gs:List (DataW H)} (hk:Rows.uptoSmall H ([.agg parts]++gs)=true) {elems spare:List (DataW H)} (h: .slice elems spare∈parts):elems.length+spare.length<270000000000:=by
 have h0:Rows.uptoBulkAll ([.agg parts]++gs)≤1048576:=of_decide_eq_true hk
 have h1:=wo h
 have h2:=tW elems
 have h3:=tW spare
 simp only [Rows.uptoBulkAll,Rows.uptoBulk,List.cons_append,List.nil_append] at h0 h1
 omega
theorem zK {bs:List Int} (l:bs.length=64) (h:∀z∈bs,0≤z∧z<256):Re.aE (bs.take 32)=true∧Re.aE (bs.drop 32)=true:=by
 refine ⟨Re.bQ.2 ⟨by rw [List.length_take];omega,?_⟩,Re.bQ.2 ⟨by rw [List.length_drop];omega,?_⟩⟩
 ·rw [List.all_eq_true]
  exact fun z hz=>Fe.mh.2 (h z (List.mem_of_mem_take hz))
 ·rw [List.all_eq_true]
  exact fun z hz=>Fe.mh.2 (h z (List.mem_of_mem_drop hz))
theorem Zx {e:Sy.Env} {bs z0 z1:List Int} {y0 y1:Value} (h:bs.length=64) (h0:Sy.VR e (.ro false .u8 z0) y0) (h1:Sy.VR e (.ro false .u8 z1) y1):
  Sy.VR e (.agg [.ints .u8 32 (bs.take 32),.ints .u8 32 (bs.drop 32),.ro false .u8 z0,.ro false .u8 z1]) (.agg ⟨Sy.aV .u8 bs++[y0,y1]⟩):=by
 refine ⟨Sy.aV .u8 bs++[y0,y1],⟨Sy.aV .u8 (bs.drop 32)++[y0,y1],⟨[y0,y1],⟨y0,[y1],h0,⟨y1,[],h1,rfl,rfl⟩,rfl⟩,?_⟩,?_⟩,rfl⟩
 ·rw [Sy.aJ (by simp;omega)]
 ·rw [Sy.aJ (by simp;omega), ←List.append_assoc, ←Sy.eP,List.take_append_drop]
theorem UP {ys:List Value} {y0 y1:Value} (h:ys.length=2) (e0:ys[0]? =some y0) (e1:ys[1]? =some y1):ys=[y0,y1]:=by
 match ys,h with
 | [a,b],_=>
  simp only [List.getElem?_cons_zero,List.getElem?_cons_succ,Option.some.injEq] at e0 e1
  rw [e0,e1]
end Go.Proofs.YtibfpjeeanppjaaGreat.Jo
end
