/- This file proves assertions, appends, copies and what strings come to sound. Conditions: those of the interpreter's own tests. -/
import Derived.IntWalk
import Derived.Test.YtibfpjeeanppjaaGreatYMa
import Derived.Laws.BytesString
import Derived.Laws.BytesArg
import Derived.RangeFuncIn
import Derived.RangeFuncRecord
set_option linter.all false
namespace Go.Sy
open Go
section
variable {P:Program} {e:Env} {B:dL} {h:List Blk} {w:World}
theorem xW {asserted xT:TypeId} {ok:Bool} {x v:SV} {x':Value} (hs:zO P asserted ok x=some v) (hx:VR e x x'):∃v',(Instr.typeAssert x' xT asserted ok).run P w= .ok v' w∧VR e v v':=by
 unfold zO at hs
 split at hs
 ·rename_i t y
  obtain ⟨y',hy,rfl⟩:=hx
  split at hs
  ·cases hs
  ·rename_i d hni hu
   split at hs
   ·rename_i ht
    subst ht
    cases hs
    refine ⟨match ok with|true=>.tuple ⟨[y',.bool true]⟩|false=>y',?_,?_⟩
    ·unfold Instr.typeAssert
     rw [Sem.run_bind,run_underlying hu,Result.andThen_ok]
     cases d<;>first|exact (hni _ rfl).elim|(simp only [if_true];cases ok<;>rfl)
    ·cases ok
     ·exact hy
     ·exact ⟨_,⟨y',_,hy,⟨.bool true,[],rfl,rfl,rfl⟩,rfl⟩,rfl⟩
   ·rename_i ht
    split at hs
    ·rename_i z hz
     cases hs
     obtain ⟨zv,h1,h2⟩:=Option.bind_eq_some_iff.1 hz
     refine ⟨.tuple ⟨[zv,.bool false]⟩,?_,_,⟨zv,_,kV h2,⟨.bool false,[],rfl,rfl,rfl⟩,rfl⟩,rfl⟩
     unfold Instr.typeAssert
     rw [Sem.run_bind,run_underlying hu,Result.andThen_ok]
     cases d<;>first|exact (hni _ rfl).elim|(simp only [if_neg ht,if_true,Sem.run_bind,jH h1,Result.andThen_ok,Sem.run_pure])
    ·cases hs
  ·cases hs
 ·rw [VR] at hx;subst hx
  split at hs
  ·cases hs
  ·rename_i d z hni hu hz
   cases hs
   obtain ⟨zv,h1,h2⟩:=Option.bind_eq_some_iff.1 hz
   refine ⟨.tuple ⟨[zv,.bool false]⟩,?_,_,⟨zv,_,kV h2,⟨.bool false,[],rfl,rfl,rfl⟩,rfl⟩,rfl⟩
   unfold Instr.typeAssert
   rw [Sem.run_bind,run_underlying hu,Result.andThen_ok]
   cases d<;>first|exact (hni _ rfl).elim|(simp only [if_true,Sem.run_bind,jH h1,Result.andThen_ok,Sem.run_pure])
  ·cases hs
 ·cases hs
theorem lf {n a m z len cap:Nat} {c:Array Value} {t:TypeId} {fr:Nat×Nat} (hb:w.heap[n]? =some (.cells c t fr)) (hl:a+m*z≤c.size):
  (Builtin.firstCells z m (.slice (some ⟨n,a,none⟩) len cap)).run P w= .ok ((c.toList.drop a).take (m*z)).toArray w:=by
 have hlen:((c.toList.drop a).take (m*z)).length=m*z:=by simp;omega
 refine run_firstCells_some w z m ⟨n,a,none⟩ len cap _ hlen fun j v hv=>?_
 rw [fI]
 apply cell_of hb
 have hj:j<m*z:=by
  have:=(List.getElem?_eq_some_iff.1 hv).1
  omega
 rwa [List.getElem?_take_of_lt hj,List.getElem?_drop] at hv
theorem lZ {z:Nat} {a:Option Addr} {len cap:Nat}:(Builtin.firstCells z 0 (.slice a len cap)).run P w= .ok #[] w:=by
 cases a with
 |none=>simp [Builtin.firstCells]
 |some a=>exact run_firstCells_some w z 0 a len cap [] (by simp) (by simp)
theorem jn {l:List Value} {a b:Nat} (h:a≤b):(l.take b).take a=l.take a:=by rw [List.take_take,Nat.min_eq_left h]
theorem bV (R:Rel B e h w) {y:SV} {y':Value} {cy:List SV} {n z:Nat} (hc:dI h y=some (cy,true)) (hn:uy y=some n) (hy:VR e y y') (hrow:eg z y=true):
  ∃ys,PR e cy ys∧ys.length=n*z∧(Builtin.lenOf y').run P w= .ok n w∧∀m,m≤n→(Builtin.firstCells z m y').run P w= .ok (ys.take (m*z)).toArray w:=by
 have z6:∀{a:Option Addr} {cap:Nat},n=0→y'= .slice a 0 cap→PR e cy []→∃ys,PR e cy ys∧ys.length=n*z∧(Builtin.lenOf y').run P w= .ok n w∧∀m,m≤n→(Builtin.firstCells z m y').run P w= .ok (ys.take (m*z)).toArray w:=fun {a cap} h0 hy' hp=>by
  subst h0 hy'
  refine ⟨[],hp,by simp,rfl,fun m hm=>?_⟩
  obtain rfl:m=0:=by omega
  rw [lZ];simp
 unfold dI at hc
 split at hc
 ·-- ro
  rename_i f k xs
  simp only [Option.some.injEq,Prod.mk.injEq,and_true] at hc
  subst hc
  simp only [uy,Option.some.injEq] at hn;subst hn
  obtain rfl:z=1:=Nat.eq_of_beq_eq_true hrow
  rcases hy with ⟨rfl,a,cap,hv,_⟩|⟨n,o,cap,c,t,fr,rfl,hz,_,hq,hcap,hfit⟩
  ·exact z6 rfl hv ⟨[],rfl,rfl⟩
  ·have hb:=R.g6 _ _ _ _ hz
   refine ⟨aP k xs,⟨[],rfl,by rw [aG rfl,List.append_nil]⟩,by simp [az],rfl,fun m hm=>?_⟩
   rw [lf hb (by omega),hq,jn (by omega)]
 ·-- str
  rename_i xs
  simp only [Option.some.injEq,Prod.mk.injEq,and_true] at hc
  subst hc
  simp only [uy,Option.some.injEq] at hn;subst hn
  obtain rfl:z=1:=Nat.eq_of_beq_eq_true hrow
  obtain ⟨s,rfl,rfl⟩:=hy
  refine ⟨aP .u8 (iG s),⟨[],rfl,by rw [aG rfl,List.append_nil]⟩,by simp [az],by rw [eW];rfl,fun m hm=>?_⟩
  rw [eW] at hm
  show Result.ok _ w=_
  congr 1
  apply Array.ext'
  simp [aP,iG,List.extract_eq_take_drop]
  rfl
 ·-- nil
  simp only [Option.some.injEq,Prod.mk.injEq,and_true] at hc
  subst hc
  simp only [uy,Option.some.injEq] at hn;subst hn
  rw [VR] at hy
  exact z6 rfl hy rfl
 ·-- a uZ block
  rename_i b o i z0 len cap ex wh
  simp only [uy,Option.some.injEq] at hn;subst hn
  have ja:z0=z:=Nat.eq_of_beq_eq_true hrow
  subst ja
  split at hc
  ·rename_i ps hb
   rcases hy with ⟨rfl,rfl,a,hv⟩|⟨p,cap',a,hp,rfl,ha,_,_,hlen,hfit⟩
   ·refine z6 rfl hv ?_
    split at hc
    ·split at hc<;>(simp only [Option.some.injEq,Prod.mk.injEq] at hc;obtain ⟨rfl,_⟩:=hc;exact ⟨[],rfl,by simp [aH,aP]⟩)
    ·rename_i ps' hd hz1
     rw [Nat.zero_mul] at hc
     obtain ⟨q,h1,h2⟩:=Option.map_eq_some_iff.1 hc
     simp only [Prod.mk.injEq,and_true] at h2;subst h2
     unfold ID at h1
     obtain ⟨q',_,h3⟩:=Option.bind_eq_some_iff.1 h1
     have:pE q' 0=some []:=by cases q'<;>rfl
     rw [this] at h3;cases h3
     exact rfl
    ·cases hc
   ·obtain ⟨c,t,hcell,hsz,uz,qp⟩:=R.block hp hb
    have fin:(∀m,m≤len→len≠0→a=p.base+(o+i*z0)∧a+m*z0≤c.size)→PR e cy (((c.toList.drop p.base).drop (o+i*z0)).take (len*z0))→((c.toList.drop p.base).drop (o+i*z0)).length≥len*z0→
      ∃ys,PR e cy ys∧ys.length=len*z0∧(Builtin.lenOf (.slice (some ⟨p.n,a,none⟩) len cap')).run P w= .ok len w∧∀m,m≤len→(Builtin.firstCells z0 m (.slice (some ⟨p.n,a,none⟩) len cap')).run P w= .ok (ys.take (m*z0)).toArray w:=fun hin hpc hge=>by
     refine ⟨_,hpc,by rw [List.length_take];omega,rfl,fun m hm=>?_⟩
     by_cases h0:len=0
     ·subst h0
      obtain rfl:m=0:=by omega
      rw [lZ];simp
     ·obtain ⟨h1,h2⟩:=hin m hm h0
      rw [lf hcell h2,h1,List.drop_drop,jn (Nat.mul_le_mul_right z0 hm)]
    have Mr:∀m,m≤len→len≠0→a=p.base+(o+i*z0)∧a+m*z0≤c.size:=fun m hm h0=>by
     have h1:=ha (by omega)
     have h2:=hfit (by omega)
     have h3:m*z0≤cap'*z0:=Nat.mul_le_mul_right z0 (by omega)
     omega
    have hdl:(c.toList.drop p.base).length=c.size-p.base:=by simp
    split at hc
    ·rename_i k nn xs rest hd
     obtain ⟨hd1,hd2⟩:=eU hd qp
     obtain ⟨zs,hzs,fE⟩:=hd1
     have wj:((c.toList.drop p.base).take (aC ps)).length=aC ps:=by simp;omega
     have amf:aC ps-o=nn+zs.length:=by
      have:=congrArg List.length fE
      simp only [List.length_drop,wj,List.length_append,az,aM] at this
      omega
     rw [wj] at hd2
     have aea:∀a b:Nat,a+b≤nn→((c.toList.drop p.base).drop (o+a)).take b=((aP k (aH nn xs)).drop a).take b:=fun a b hab=>by
      have h1:(((c.toList.drop p.base).take (aC ps)).drop o).drop a=((c.toList.drop p.base).drop (o+a)).take (aC ps-(o+a)):=by rw [List.drop_drop,List.drop_take]
      rw [fE,List.drop_append_of_le_length (by rw [az,aM];omega)] at h1
      have h2:=congrArg (List.take b) h1
      rw [jn (by omega),List.take_append_of_le_length (by rw [List.length_drop,az,aM];omega)] at h2
      exact h2.symm
     split at hc
     ·simp only [Option.some.injEq,Prod.mk.injEq,Bool.and_eq_true,decide_eq_true_eq] at hc
      obtain ⟨rfl,uq,hle,rfl⟩:=hc
      refine fin Mr ?_ (by simp;omega)
      have:=aea 0 len (by omega)
      simp only [Nat.mul_one,Nat.add_zero,List.drop_zero] at this ⊢
      rw [this]
      exact ⟨[],rfl,by rw [List.append_nil, ←cI,aG uq, ←gk hle,List.take_of_length_le (by omega),aG uq]⟩
     ·simp only [Option.some.injEq,Prod.mk.injEq,Bool.and_eq_true,decide_eq_true_eq] at hc
      obtain ⟨rfl,hle,uq⟩:=hc
      refine fin Mr ?_ (by simp;omega)
      have:=aea i len hle
      simp only [Nat.mul_one] at this ⊢
      rw [this]
      refine ⟨[],rfl,?_⟩
      rw [List.append_nil, ←ee, ←cI, ←vU, ←gk (by omega)]
    ·rename_i ps' hd hz1
     obtain ⟨q,h1,h2⟩:=Option.map_eq_some_iff.1 hc
     simp only [Prod.mk.injEq,and_true] at h2;subst h2
     obtain ⟨hd1,hd2⟩:=eU hd qp
     have wj:((c.toList.drop p.base).take (aC ps)).length=aC ps:=by simp;omega
     obtain ⟨h3,h4⟩:=pW h1 hd1
     rw [List.length_drop,wj] at h4
     rw [wj] at hd2
     refine fin Mr ?_ (by simp;omega)
     rw [List.drop_drop,List.drop_take,jn (by omega)] at h3
     exact h3
    ·cases hc
  ·cases hc
 ·cases hc
end
end Go.Sy
namespace Go.Sy
open Go
section
variable {P:Program} {e:Env} {B:dL} {h:List Blk} {w:World}
theorem PR.split:∀{a b:List SV} {ys:List Value},PR e (a++b) ys→∃y1 y2,ys=y1++y2∧PR e a y1∧PR e b y2
 | [],b,ys,h=>⟨[],ys,rfl,rfl,h⟩
 |x::a,b,ys,h=>by
  rw [List.cons_append] at h
  by_cases hx:aU x=true
  ·obtain ⟨y,zs,h1,h2,rfl⟩:=(PR.cons hx).1 h
   obtain ⟨y1,y2,rfl,h3,h4⟩:=PR.split h2
   exact ⟨y::y1,y2,rfl,(PR.cons hx).2 ⟨y,y1,h1,h3,rfl⟩,h4⟩
  ·cases x<;>simp [aU] at hx
   obtain ⟨zs,h2,rfl⟩:=h
   obtain ⟨y1,y2,rfl,h3,h4⟩:=PR.split h2
   exact ⟨_,y2,by rw [List.append_assoc],⟨y1,h3,rfl⟩,h4⟩
theorem mb (a b:List SV):aC (a++b)=aC a+aC b:=by
 induction a with
 |nil=>simp [aC]
 |cons x xs ih=>simp only [List.cons_append,aC,ih];omega
theorem wv {f:SV→Option SV}:∀{ps ps':List SV} {o:Nat},IE f ps o=some ps'→∃pre p p' post,ps=pre++p::post∧ps'=pre++p'::post∧aC pre=o∧f p=some p'∧atP ps o=some p
 | [],ps',o,h=>by cases o<;>simp [IE] at h
 |p::ps,ps',0,h=>by
  simp only [IE] at h
  obtain ⟨p',h1,rfl⟩:=Option.map_eq_some_iff.1 h
  exact ⟨[],p,p',ps,rfl,rfl,rfl,h1,rfl⟩
 |p::ps,ps',o+1,h=>by
  simp only [IE] at h
  split at h
  ·rename_i hb
   have hle:=Nat.le_of_ble_eq_true hb
   obtain ⟨qs,h1,rfl⟩:=Option.map_eq_some_iff.1 h
   obtain ⟨pre,x,x',post,rfl,rfl,h2,h3,h4⟩:=wv h1
   exact ⟨p::pre,x,x',post,rfl,rfl,by simp only [aC];omega,h3,by simp only [atP,hb];exact h4⟩
  ·cases h
theorem pM {xs ys:List Int} {i n m:Nat} (h1:xs.length=m) (h2:i+n≤m) (h3:n≤ys.length):(ng xs i ys n).length=m:=by simp [ng];omega
theorem Rel.same (R:Rel B e h w) {b:Nat} {ps ps':List SV} (hb:h[b]? =some (.b ps)) (h1:∀ys,PR e ps ys→PR e ps' ys) (h2:aC ps'=aC ps):Rel B e (h.set b (.b ps')) w:=by
 have hlt:=(List.getElem?_eq_some_iff.1 hb).1
 exact {
  os:=R.os,tape:=R.tape,output:=R.output,size:=R.size,inj:=R.inj,dom:=fun i p hi=>by simpa using R.dom i p hi,sep:=R.sep,g6:=R.g6,bz:=R.bz,news:=R.news,bF:=R.bF,bZ:=R.bZ,n0:=R.n0,cW:=R.cW
  gj:=fun i qs hi=>by
   by_cases lW:b=i
   ·subst lW
    rw [List.getElem?_set_self hlt] at hi;cases hi
    rcases R.gj b ps hb with ⟨g1,g2⟩|⟨p,o,g1,g2,c,t,rfl,g3,g4,g5⟩
    ·exact .inl ⟨by omega,g2⟩
    ·exact .inr ⟨p,_,g1,g2,c,t,rfl,g3,by omega,by rw [h2];exact h1 _ g5⟩
   ·rw [List.getElem?_set_ne lW] at hi;exact R.gj i qs hi
  gap:=fun i g hi=>by
   by_cases lW:b=i
   ·subst lW;rw [List.getElem?_set_self hlt] at hi;cases hi
   ·rw [List.getElem?_set_ne lW] at hi;exact R.gap i g hi
  yi:=R.yi,yb:=R.yb,old:=R.old,win:=R.win,kr:=R.kr,iO:=by simpa using R.iO,iZ:=R.iZ,kf:=R.kf}
theorem RW {x:SV} {m:Nat} {xs:List Int} (h:Ya x=some (m,xs)):∃k,x= .ints k m xs:=by
 unfold Ya at h
 split at h
 ·rename_i k m' xs';cases h;exact ⟨k,rfl⟩
 ·cases h
theorem jo {b o i n:Nat} {k:IntKind} {ys:List Int} {h':List Blk} (hw:sP h b o i k ys n=some (h',true)):∃ps pre post m xs,h[b]? =some (.b ps)∧ps=pre++ .ints k m xs::post∧aC pre=o∧
  h'=h.set b (.b (pre++ .ints k m (ng xs i ys n)::post))∧xs.length=m∧i+n≤m∧n≤ys.length:=by
 unfold sP at hw
 split at hw
 ·rename_i ps hb
  split at hw
  ·rename_i m xs ps' ha hu
   simp only [Option.some.injEq,Prod.mk.injEq,Bool.and_eq_true,decide_eq_true_eq] at hw
   obtain ⟨rfl,⟨uq,hin⟩,sq⟩:=hw
   obtain ⟨pre,x,x',post,rfl,rfl,h2,h3,h4⟩:=wv hu
   rw [h4] at ha
   obtain ⟨k',rfl⟩:=RW ha
   simp only [ad0] at h3
   split at h3
   ·rename_i hk
    subst hk
    cases h3
    exact ⟨_,pre,post,m,xs,hb,rfl,h2,rfl,uq,hin,sq⟩
   ·cases h3
  ·cases hw
 ·cases hw
theorem Ms (xs:List Int) (i:Nat) (ys:List Int):ng xs i ys 0=xs:=by simp [ng]
theorem jZ (R:Rel B e h w) {b o i:Nat} {k:IntKind} {ys:List Int} {h':List Blk} (hw:sP h b o i k ys 0=some (h',true)):Rel B e h' w:=by
 obtain ⟨ps,pre,post,m,xs,hb,rfl,_,rfl,_⟩:=jo hw
 rw [Ms]
 exact R.same hb (fun _ g=>g) rfl
theorem qZ (R:Rel B e h w) {b o i n:Nat} {k:IntKind} {ys:List Int} {h':List Blk} {p:Pl} (hw:sP h b o i k ys n=some (h',true)) (hp:e.r b=some p):
  ∃w',(storeCells ⟨p.n,p.base+(o+i),none⟩ (aP k (ys.take n)) 0).run P w= .ok () w'∧Rel B e h' w':=by
 obtain ⟨ps,pre,post,m,xs,hb,rfl,ho,rfl,uq,hin,sq⟩:=jo hw
 obtain ⟨c,t,hc,hsz,uz,qp⟩:=R.block hp hb
 have hl:(aP k (ys.take n)).length=n:=by simp [az];omega
 have hsize:aC (pre++ .ints k m xs::post)=o+(m+aC post):=by rw [mb,ho];simp [aC,xM]
 refine R.storeAt hp hc hsz uz (o+i) _ _ (by rw [hl,hsize];omega) (by rw [mb,mb];simp [aC,xM]) (fun v hv=>?_) ?_
 ·simp only [aP,List.map_take] at hv
  obtain ⟨x,_,rfl⟩:=List.mem_map.1 (List.mem_of_mem_take hv)
  rfl
 ·obtain ⟨y1,y2,hy,g1,g2⟩:=qp.split
  obtain ⟨zs,g3,rfl⟩:=g2
  rw [hy]
  have hy1:y1.length=o:=by rw [g1.length,ho]
  rw [aG uq,hl]
  have e1:(y1++(aP k xs++zs)).take (o+i)=y1++(aP k xs).take i:=by
   rw [List.take_append,List.take_of_length_le (by omega),hy1,Nat.add_sub_cancel_left,List.take_append_of_le_length (by rw [az];omega)]
  have e2:(y1++(aP k xs++zs)).drop (o+i+n)=(aP k xs).drop (i+n)++zs:=by
   rw [List.drop_append,List.drop_eq_nil_of_le (by omega),List.nil_append,hy1,show o+i+n-o=i+n by omega,List.drop_append_of_le_length (by rw [az];omega)]
  rw [e1,e2]
  refine (g1.append (show PR e (.ints k m (ng xs i ys n)::post) (aP k (ng xs i ys n)++zs) from ⟨zs,g3,by rw [aG (pM uq hin sq)]⟩)) |> fun g=>?_
  have e3:aP k (ng xs i ys n)=(aP k xs).take i++aP k (ys.take n)++(aP k xs).drop (i+n):=by
   simp [ng,gq,cI,ee]
  rw [e3] at g
  simpa [List.append_assoc] using g
theorem b8 {sT xT ty el:TypeId} {i:TypeInfo} {d:TypeDesc} {base:Option Addr} {sLen sCap n:Nat} {y':Value} {news:List Value} {w':World} (ht:P.underlying sT=some (.slice el)) (hu:P.underlying xT=some d) (hd:∀k,d≠.int k) (hi:P.info? el=some i)
  (hlen:(Builtin.lenOf y').run P w= .ok n w) (hf:(Builtin.firstCells i.size n y').run P w= .ok news.toArray w) (hfit:sLen+n≤sCap)
  (hst:(base=none∧w'=w)∨∃a,base=some a∧(storeCells (a.add (sLen*i.size)) news 0).run P w= .ok () w'):
  (Builtin.append_ #[sT,xT] ty #[.slice base sLen sCap,y']).run P w= .ok (.slice base (sLen+n) sCap) w':=by
 unfold Builtin.append_
 simp only [List.getElem?_toArray,List.getElem?_cons_zero,List.getElem?_cons_succ,Sem.run_bind,run_underlying ht,run_underlying hu,Result.andThen_ok,sizeOf,typeInfo,run_program,hi,Sem.run_pure,Bool.false_eq_true,if_false,hlen,Bool.not_false,if_true,if_pos hfit,hf]
 rcases hst with ⟨rfl,rfl⟩|⟨a,rfl,hr⟩
 ·simp
 ·simp [hr]
theorem ic {sT xT ty el:TypeId} {i:TypeInfo} {d:TypeDesc} {zv:Value} {base:Option Addr} {sLen sCap n:Nat} {y':Value} {olds news:List Value} (ht:P.underlying sT=some (.slice el)) (hu:P.underlying xT=some d) (hd:∀k,d≠.int k) (hi:P.info? el=some i) (hz:i.zero=some zv)
  (hlen:(Builtin.lenOf y').run P w= .ok n w) (hold:(Builtin.firstCells i.size sLen (.slice base sLen sCap)).run P w.drew= .ok olds.toArray w.drew) (hf:(Builtin.firstCells i.size n y').run P w.drew= .ok news.toArray w.drew)
  (hg:sCap<sLen+n) (h63:((sLen+n:Nat):Int)≤9223372036854775807) (hb:(sLen+n)*i.bytes≤140737488355328):
  (Builtin.append_ #[sT,xT] ty #[.slice base sLen sCap,y']).run P w=
   .ok (.slice (some ⟨w.heap.size,0,none⟩) (sLen+n) (grownCap w (sLen+n) sCap el)) (w.drew.alloc (.cells (olds++news++(Builtin.zeroCells zv.cells (grownCap w (sLen+n) sCap el-(sLen+n))).toList).toArray el)):=by
 have hn:¬(sLen+n≤sCap):=by omega
 have h63':¬((sLen+n:Nat):Int)>IntKind.i64.max:=by show ¬((sLen+n:Nat):Int)>9223372036854775807;omega
 have h48:¬(Builtin.nextslicecap (sLen+n) sCap*i.bytes>2^48):=by have:=growslice_fits hg hb;omega
 have hroom:∀(m:Nat) (w:World),(askRoom m).run P w= .ok () w:=fun m w=>by unfold askRoom;split<;>simp [mark,Sem.run]
 unfold Builtin.append_
 simp only [List.getElem?_toArray,List.getElem?_cons_zero,List.getElem?_cons_succ,Sem.run_bind,run_underlying ht,run_underlying hu,Result.andThen_ok,sizeOf,typeInfo,run_program,hi,Sem.run_pure,Bool.false_eq_true,if_false,hlen,Bool.not_false,if_true,if_neg hn,h63',false_and,h48]
 have hch:(choose (.appendCap (sLen+n) sCap el)).run P w= .ok (grownCap w (sLen+n) sCap el) w.drew:=by
  simp [Question.forced,grownCap]
 rw [hch]
 simp only [Result.andThen_ok,hroom,hold,hf,zeroValue,Sem.run_bind,typeInfo,run_program,hi,hz,Sem.run_pure]
 simp [newRow,newObj,Sem.run,World.alloc]
 congr 2
 apply Array.ext'
 simp
theorem sY {sT xT ty el:TypeId} {i:TypeInfo} {kk:IntKind} {zv:Value} {n:Int} (ht:P.underlying sT=some (.slice el)) (hu:P.underlying xT=some (.int kk)) (hi:P.info? el=some i) (hz:i.zero=some zv) (h1:i.size=1) (hby:i.bytes≤256) (h0:0<n) (hn:n≤2^38):
  (Builtin.append_ #[sT,xT] ty #[.slice none 0 0,.int .i64 n]).run P w=
   .ok (.slice (some ⟨w.heap.size,0,none⟩) (0+n.toNat) (grownCap w (0+n.toNat) 0 el)) (w.drew.alloc (.cells ((Builtin.zeroCells zv.cells n.toNat).toList++(Builtin.zeroCells zv.cells (grownCap w (0+n.toNat) 0 el-(0+n.toNat))).toList).toArray el)):=by
 have hw:IntKind.i64.wrap n=n:=IntWalk.i64_in n (by omega)
 have hneg:¬n<0:=by omega
 have xV:¬n*(i.bytes:Int)>2^48:=by
  have:n*(i.bytes:Int)≤2^38*256:=Int.mul_le_mul hn (by omega) (by omega) (by decide)
  omega
 have hfit:¬(0+n.toNat≤0):=by omega
 have h63':¬((0+n.toNat:Nat):Int)>IntKind.i64.max:=by show ¬((0+n.toNat:Nat):Int)>9223372036854775807;omega
 have h48:¬(Builtin.nextslicecap (0+n.toNat) 0*i.bytes>2^48):=by
  have hg:0<0+n.toNat:=by omega
  have hb:(0+n.toNat)*i.bytes≤140737488355328:=by
   have:(0+n.toNat)*i.bytes≤2^38*256:=Nat.mul_le_mul (by omega) hby
   omega
  have:=growslice_fits hg hb
  omega
 have hroom:∀(m:Nat) (w:World),(askRoom m).run P w= .ok () w:=fun m w=>by unfold askRoom;split<;>simp [mark,Sem.run]
 have hne:¬n.toNat*i.size=0:=by rw [h1];omega
 unfold Builtin.append_
 have hch:(choose (.appendCap (0+n.toNat) 0 el)).run P w= .ok (grownCap w (0+n.toNat) 0 el) w.drew:=by
  simp [Question.forced,grownCap]
 have hold:(Builtin.firstCells i.size 0 (.slice none 0 0)).run P w.drew= .ok ([]:List Value).toArray w.drew:=lZ
 simp only [List.getElem?_toArray,List.getElem?_cons_zero,List.getElem?_cons_succ,Sem.run_bind,run_underlying ht,run_underlying hu,Result.andThen_ok,sizeOf,typeInfo,run_program,hi,Sem.run_pure,if_true,asInt,asIntOf,hw,if_neg hneg,if_neg xV,if_neg hfit,h63',false_and,if_false,h48,hch,hroom,hold,Bool.not_true,Bool.false_eq_true,if_neg hne,zeroValue,hz]
 simp [newRow,newObj,Sem.run,World.alloc]
 congr 2
 apply Array.ext'
 simp
theorem q8 {sT xT ty el:TypeId} {i:TypeInfo} {kk:IntKind} (ht:P.underlying sT=some (.slice el)) (hu:P.underlying xT=some (.int kk)) (hi:P.info? el=some i):
  (Builtin.append_ #[sT,xT] ty #[.slice none 0 0,.int .i64 0]).run P w= .ok (.slice none 0 0) w:=by
 have hw:IntKind.i64.wrap 0=0:=by decide
 unfold Builtin.append_
 simp [Sem.run_bind,run_underlying ht,run_underlying hu,sizeOf,typeInfo,hi,asInt,asIntOf,hw]
theorem nS {cx cy:List SV} {xs ys:List Value} (hx:PR e cx xs) (hy:PR e cy ys) (hl:zP cx=true):PR e (mM cx cy) (xs++ys):=by
 unfold mM
 split
 ·rename_i k n as k' m bs
  obtain ⟨z1,g1,rfl⟩:=hx
  obtain ⟨z2,g2,rfl⟩:=hy
  rw [PR] at g1 g2;subst g1 g2
  simp only [zP,decide_eq_true_eq] at hl
  split
  ·rename_i hk
   subst hk
   refine ⟨[],rfl,?_⟩
   rw [List.append_nil,List.append_nil,List.append_nil, ←gq]
   congr 1
   rw [aG hl]
   apply List.ext_getElem?
   intro i
   by_cases h1:i<n+m
   ·rw [ji _ h1]
    by_cases h2:i<n
    ·rw [List.getElem?_append_left (by omega),List.getD,List.getElem?_append_left (by omega),List.getElem?_eq_getElem (by omega)];rfl
    ·rw [List.getElem?_append_right (by omega),hl,ji _ (by omega),List.getD,List.getD,List.getElem?_append_right (by omega),hl]
   ·rw [List.getElem?_eq_none (by simp [aM];omega),List.getElem?_eq_none (by rw [aM];omega)]
  ·exact ⟨_,⟨[],rfl,rfl⟩,by simp⟩
 ·rw [PR] at hx;subst hx;exact hy
 ·rw [PR] at hy;subst hy;simpa using hx
 ·exact hx.append hy
theorem Rel.rebind (R:Rel B e h w) {b:Nat} {ps ps':List SV} {q:Pl} {w':World} {c:Array Value} {t:TypeId} (hB:B.e.r b=none) (hb:h[b]? =some (.b ps))
  (hno:eV b (h.set b (.b ps'))=true) (hos:w'.os=w.os) (Mt:w'.tape=w.tape) (hout:w'.output=w.output) (hsize:w.heap.size≤w'.heap.size)
  (hsame:∀n,n<w.heap.size→(∀p,e.r b=some p→p.n≠n)→w'.heap[n]? =w.heap[n]?) (hq:w.heap.size≤q.n∨∃p,e.r b=some p∧p.n=q.n)
  (hcell:w'.heap[q.n]? =some (.cells c t (0,0))) (hfit:q.base+q.size≤c.size) (hps:aC ps'≤q.size) (qp:PR e ps' ((c.toList.drop q.base).take (aC ps'))):
  Rel B (nN e b q) (h.set b (.b ps')) w':=by
 have hlt:=(List.getElem?_eq_some_iff.1 hb).1
 have hnu:∀(i:Nat) (qs:List SV),(h.set b (.b ps'))[i]? =some (.b qs)→c6 b qs=false:=fun i qs hi=>by
  have:=(List.all_eq_true.1 hno) (.b qs) (List.mem_of_getElem? hi)
  simpa using this
 have hnv:∀{i:Nat} (L:Lp),(h.set b (.b ps'))[i]? =some (.g (some L))→∀v,some v∈L.t→uses b v=false:=fun {i} L hi v hv=>by
  have:=(List.all_eq_true.1 hno) (.g (some L)) (List.mem_of_getElem? hi)
  have:=(List.all_eq_true.1 this) (some v) hv
  simpa [v8] using this
 have up:∀(i:Nat) (qs:List SV) (ys:List Value),(h.set b (.b ps'))[i]? =some (.b qs)→PR e qs ys→PR (nN e b q) qs ys:=fun i qs ys hi g=>
  PR.mono' (e:=e) (e':=nN e b q) (fun _ _ h=>h) (Nat.le_refl _) qs ys (fun j p hj hp=>by
   show (if j=b then some q else e.r j)=some p
   rw [if_neg (fun x=>by subst x;rw [hnu i qs hi] at hj;cases hj)];exact hp) g
 have P3:∀p,e.r b=some p→B.w.heap.size≤p.n:=fun p hp=>by
  rcases R.news b p hp with g|g
  ·rw [hB] at g;cases g
  ·exact g
 have keep:∀(i:Nat) (p:Pl),i≠b→e.r i=some p→w'.heap[p.n]? =w.heap[p.n]? :=fun i p hi hp=>hsame p.n (R.lt hp) fun p' GF x=>hi (R.inj i b p p' hp GF x.symm)
 have aec:∀(i:Nat) (p:Pl),i≠b→e.r i=some p→p.n≠q.n:=fun i p hi hp x=>by
  rcases hq with g|⟨p',g1,g2⟩
  ·have:=R.lt hp;omega
  ·exact hi (R.inj i b p p' hp g1 (by omega))
 exact {
  os:=hos.trans R.os,tape:=Mt.trans R.tape,output:=hout.trans R.output
  size:=Nat.le_trans R.size hsize
  inj:=fun i i' p p' hi hi' g=>by
   rcases dF hi with ⟨g0,g1⟩|⟨g1,g1'⟩<;>rcases dF hi' with ⟨g0',g2⟩|⟨g2,g2'⟩
   ·exact R.inj i i' p p' g1 g2 g
   ·subst g2';exact absurd g (aec i p g0 g1)
   ·subst g1';exact absurd g.symm (aec i' p' g0' g2)
   ·omega
  dom:=fun i p hi=>by
   rcases dF hi with ⟨_,g⟩|⟨g,_⟩
   ·simpa using R.dom i p g
   ·subst g;simpa using hlt
  sep:=fun i p hi=>by
   rcases dF hi with ⟨_,g⟩|⟨_,g⟩
   ·exact R.sep i p g
   ·subst g
    show e.z p.n=none
    rcases hq with g|⟨p',g1,g2⟩
    ·cases hz:e.z p.n with
     |none=>rfl
     |some x=>have:=R.P1 hz;omega
    ·rw [←g2];exact R.sep b p' g1
  g6:=fun n cc tt fr hz=>by
   have ku:e.z n=some (cc,tt,fr):=hz
   rw [hsame n (R.P1 ku) fun p hp x=>by subst x;rw [R.sep b p hp] at ku;cases ku]
   exact R.g6 n cc tt fr hz
  bz:=R.bz
  news:=fun i p hi=>by
   rcases dF hi with ⟨_,g⟩|⟨_,g⟩
   ·exact R.news i p g
   ·subst g
    rcases hq with g|⟨p',g1,g2⟩
    ·exact .inr (Nat.le_trans R.size g)
    ·exact .inr (by have:=P3 p' g1;omega)
  bF:=fun i p hi=>by
   show (if i=b then some q else e.r i)=some p
   rw [if_neg (fun x=>by subst x;rw [hB] at hi;cases hi)];exact R.bF i p hi
  bZ:=R.bZ,n0:=R.n0,cW:=R.cW
  gj:=fun i qs hi=>by
   have GG:=hi
   by_cases lW:b=i
   ·subst lW
    rw [List.getElem?_set_self hlt] at hi;cases hi
    exact .inr ⟨q,_,eB,hcell,c,t,rfl,hfit,hps,up b _ _ GG qp⟩
   ·rw [List.getElem?_set_ne lW] at hi
    rcases R.gj i qs hi with ⟨g1,g2⟩|⟨p,o,g1,g2,c',t',rfl,g3,g4,g5⟩
    ·exact .inl ⟨g1,by show (if i=b then some q else e.r i)=none;rw [if_neg (Ne.symm lW)];exact g2⟩
    ·exact .inr ⟨p,_,by show (if i=b then some q else e.r i)=some p;rw [if_neg (Ne.symm lW)];exact g1,by rw [keep i p (Ne.symm lW) g1];exact g2,c',t',rfl,g3,g4,up i _ _ GG g5⟩
  gap:=fun i g hi=>by
   by_cases lW:b=i
   ·subst lW;rw [List.getElem?_set_self hlt] at hi;cases hi
   ·rw [List.getElem?_set_ne lW] at hi
    refine ⟨?_,(R.gap i g hi).2.keep (fun n o hn=>?_) rfl fun L hL v v' hm hv=>VR.mono' (e:=e) (e':=nN e b q) (fun _ _ h=>h) (Nat.le_refl _) v v' (fun j p hj hp=>by
     show (if j=b then some q else e.r j)=some p
     rw [if_neg (fun x=>by subst x;rw [hnv L (by rw [←hL,List.getElem?_set_ne lW];exact hi) v hm] at hj;cases hj)];exact hp) hv⟩
    ·show (if i=b then some q else e.r i)=none
     rw [if_neg (Ne.symm lW)];exact (R.gap i g hi).1
    ·rw [hsame n (Array.getElem?_eq_some_iff.1 hn).1 fun p hp x=>by
      subst x
      obtain ⟨c',t',h1,_⟩:=R.fm hp
      rw [h1] at hn;cases hn]
     exact hn
  yi:=R.yi,yb:=R.yb
  old:=fun n hn hno qt=>by
   rw [hsame n (by have:=R.size;omega) fun p hp=>by have:=P3 p hp;omega]
   exact R.old n hn hno qt
  win:=fun i p hi=>by
   obtain ⟨o,o',ho,ho',P2⟩:=R.win i p hi
   exact ⟨o,o',ho,by rw [keep i p (fun x=>by subst x;rw [hB] at hi;cases hi) (R.bF i p hi)];exact ho',P2⟩
  kr:=R.kr
  iO:=by simpa using R.iO
  iZ:=fun r hr=>by
   have:=R.iZ r hr
   rw [hsame r (Array.getElem?_eq_some_iff.1 this.1).1 fun p hp x=>by
    subst x
    obtain ⟨c',t',h1,_⟩:=R.fm hp
    have h2:=this.1
    rw [h1] at h2;cases h2]
   exact this
  kf:=R.kf}
theorem Rel.zero (R:Rel B e h w) {b:Nat} {ps ps':List SV} (hb:h[b]? =some (.b ps)) (h1:PR e ps' []):Rel B e (h.set b (.b ps')) w:=by
 have hlt:=(List.getElem?_eq_some_iff.1 hb).1
 have h0:aC ps'=0:=h1.length.symm
 exact {
  os:=R.os,tape:=R.tape,output:=R.output,size:=R.size,inj:=R.inj,dom:=fun i p hi=>by simpa using R.dom i p hi,sep:=R.sep,g6:=R.g6,bz:=R.bz,news:=R.news,bF:=R.bF,bZ:=R.bZ,n0:=R.n0,cW:=R.cW
  gj:=fun i qs hi=>by
   by_cases lW:b=i
   ·subst lW
    rw [List.getElem?_set_self hlt] at hi;cases hi
    cases hr:e.r b with
    |none=>exact .inl ⟨h0,rfl⟩
    |some p=>
     obtain ⟨c,t,g1,g2,g3,g4⟩:=R.block hr hb
     exact .inr ⟨p,_,rfl,g1,c,t,rfl,g2,by omega,by rw [h0,List.take_zero];exact h1⟩
   ·rw [List.getElem?_set_ne lW] at hi;exact R.gj i qs hi
  gap:=fun i g hi=>by
   by_cases lW:b=i
   ·subst lW;rw [List.getElem?_set_self hlt] at hi;cases hi
   ·rw [List.getElem?_set_ne lW] at hi;exact R.gap i g hi
  yi:=R.yi,yb:=R.yb,old:=R.old,win:=R.win,kr:=R.kr,iO:=by simpa using R.iO,iZ:=R.iZ,kf:=R.kf}
structure b9 (e e':Env) (kill:Option Nat):Prop where
 r:∀(i:Nat) (p:Pl),kill≠some i→e.r i=some p→e'.r i=some p
 z:∀n o,e.z n=some o→e'.z n=some o
 n0:e'.n0≤e.n0
 m:e'.m=e.m
theorem b9.refl (e:Env) (k:Option Nat):b9 e e k:=⟨fun _ _ _ h=>h,fun _ _ h=>h,Nat.le_refl _,rfl⟩
theorem b9.of_le {e e':Env} (h:Env.Le e e') (hm:e'.m=e.m) (k:Option Nat):b9 e e' k:=⟨fun i p _=>h.r i p,h.z,h.n0,hm⟩
theorem b9.le {e e':Env} (h:b9 e e' none):Env.Le e e':=⟨fun i p=>h.r i p (by simp),h.z,h.n0⟩
theorem b9.slots {e':Env} {k:Option Nat} (hs:b9 e e' k) {t:List (Option SV)} {t':List Value} (g:TR e t t'):TR e' (eH k t) t':=by
 cases k with
 |none=>exact g.mono hs.le
 |some b=>exact g.kill hs.z hs.n0 fun j p hj=>hs.r j p (by simp;exact fun x=>hj x.symm)
def cT (B:dL) (e:Env) (j:Nat) (r:jX) (res:Result Next):Prop:=
 ∃nx w' e' v',res= .ok nx w'∧(nx= .value v'∨(nx= .skip∧v'=undef))∧VR e' r.v v'∧Rel B e' (b6 r.h j r.new) w'∧b9 e e' r.kill
theorem tU {el:TypeId} {z:Nat} (hk:v9 P el=some z):∃i zv,P.info? el=some i∧i.size=z+1∧i.zero=some zv∧zv.cells.size=z+1∧i.bytes≤256:=by
 unfold v9 at hk
 split at hk
 ·rename_i IF z' zs hb hs hz
  split at hk
  ·rename_i hc
   simp only [Bool.and_eq_true,decide_eq_true_eq] at hc
   cases hk
   obtain ⟨i,hi,hsz⟩:=yA hs
   obtain ⟨zv,h1,h2⟩:=sW hz
   refine ⟨i,zv,hi,hsz,?_,by omega,?_⟩
   ·simpa [zeroOf,hi] using h1
   ·simp [hi] at hb;omega
  ·cases hk
 ·cases hk
theorem bM (h:List Blk) (j:Nat):b6 h j []=h:=by unfold b6;split<;>simp [bU]
theorem dR (c:Array Value) (n:Nat):(Builtin.zeroCells c n).toList.length=n*c.size:=by simp [Builtin.zeroCells]
theorem xX (R:Rel B e h w) {k j:Nat} {jk:Bool} {sT xT ty:TypeId} {x y:SV} {x' y':Value} {r:jX} (ha:uY P k h j jk sT xT x y=some r) (hp:r.p=true) (hj:ld h j r.new.length)
  (hk:∀i p,B.e.r i=some p→i<k) (hx:VR e x x') (hy:VR e y y'):cT B e j r ((do pure (.value (←Builtin.append_ #[sT,xT] ty #[x',y'])):Sem Next).run P w):=by
 unfold uY at ha
 split at ha
 ·-- so many amg
  rename_i el kk ht hu
  unfold zQ at ha
  split at ha
  ·rename_i n ki hki hok
   obtain ⟨i,zv,hi,hsz,hz,hzs,hby⟩:=tU hok
   simp only [Option.some.injEq] at ha
   subst ha
   simp only [Bool.and_eq_true,decide_eq_true_eq] at hp
   obtain rfl:x'= .slice none 0 0:=hx
   obtain rfl:y'= .int .i64 n:=hy
   by_cases h0:n=0
   ·subst h0
    exact ⟨_,w,e,_,(by simp only [Sem.run_bind,q8 ht hu hi,Result.andThen_ok,Sem.run_pure];try rfl),.inl rfl,.inl ⟨rfl,rfl,none,rfl⟩,R.nothing (by simpa using hj) rfl,b9.refl _ _⟩
   ·have hrun:=sY (w:=w) (ty:=ty) ht hu hi hz (by omega) hby (by omega) hp.2
    have hfree:=R.free (j:=j) (by rcases hj with g|g;exact .inl g;exact .inr (by simpa using g 0 (by simp)))
    obtain ⟨zs,hzS⟩:∃zs,kU P el=some zs:=by
     unfold v9 at hok
     split at hok
     ·rename_i zs _ _ q;exact ⟨_,q⟩
     ·cases hok
    have hrow:=wm (e:=e) (n:=n.toNat) hzS (z:=zv) (by simp [zeroOf,hi,hz]) (by omega) (ps:=[.ints ki n.toNat (List.replicate n.toNat 0)]) (by rw [hki])
    have qu:(Builtin.zeroCells zv.cells n.toNat).toList.length=n.toNat:=by rw [dR,hzs];omega
    have hge:0+n.toNat≤grownCap w (0+n.toNat) 0 el:=by unfold grownCap;simp [Question.cut]
    have hps:aC [SV.ints ki n.toNat (List.replicate n.toNat 0)]=n.toNat:=by simp [aC,xM]
    have R2:=(R.drawn (w.drawn+1)).make (j:=j) (t:=el) (ps:=[.ints ki n.toNat (List.replicate n.toNat 0)]) (ys:=(Builtin.zeroCells zv.cells n.toNat).toList++(Builtin.zeroCells zv.cells (grownCap w (0+n.toNat) 0 el-(0+n.toNat))).toList) (by simpa using hj)
     (by rw [hps,List.take_append_of_le_length (by omega),List.take_of_length_le (by omega)];exact hrow)
     (by rw [hps,List.length_append,qu];omega)
    refine ⟨_,_,_,_,(by simp only [Sem.run_bind,hrun,Result.andThen_ok,Sem.run_pure];try rfl),.inl rfl,.inr ⟨_,grownCap w (0+n.toNat) 0 el,0,eB,by rw [Nat.zero_add],fun _=>by simp,by omega,(fun q=>by cases q),by omega,fun _=>?_⟩,R2,b9.of_le (jl hfree) rfl _⟩
    show 0+0*1+grownCap w (0+n.toNat) 0 el*1≤_
    rw [List.length_append,qu,dR,hzs]
    dsimp only
    omega
  ·cases ha
 ·cases ha
 ·rename_i el d hni ht hu
  have hd:∀k,d≠.int k:=fun k q=>hni k (by rw [q])
  split at ha
  ·rename_i z cy py ny hok JR sq
   obtain ⟨i,zv,hi,hsz,hz,hzs,hby⟩:=tU hok
   have key:∀(a:Option Addr) (pp:Bool),ld h j 1→x'= .slice a 0 0→py=true→eg (z+1) y=true→ny≤2^38→
     cT B e j ⟨.sl j 0 0 (z+1) ny ny false true,h,[.b cy],none,pp⟩ ((do pure (.value (←Builtin.append_ #[sT,xT] ty #[x',y'])):Sem Next).run P w):=fun a pp hj hx' RX hrow xV=>by
    subst hx' RX
    obtain ⟨ys,hys,u5,hlen,hf⟩:=bV (P:=P) R JR sq hy hrow
    obtain ⟨Mu,B5,xY,Vo,Vp⟩:=bV (P:=P) (R.drawn (w.drawn+1)) JR sq hy hrow
    by_cases h0:ny=0
    ·subst h0
     have IU:ys=[]:=List.length_eq_zero_iff.1 (by rw [u5];simp)
     subst IU
     have hrun:=b8 (w:=w) (w':=w) (ty:=ty) (base:=a) (sLen:=0) (sCap:=0) (news:=[]) ht hu hd hi hlen (by have:=hf 0 (Nat.le_refl _);rw [←hsz] at this;simpa using this) (Nat.le_refl _) (by cases a with|none=>exact .inl ⟨rfl,rfl⟩|some a=>exact .inr ⟨a,rfl,rfl⟩)
     refine ⟨_,w,e,_,(by simp only [Sem.run_bind,hrun,Result.andThen_ok,Sem.run_pure];try rfl),.inl rfl,.inl ⟨rfl,rfl,a,rfl⟩,R.nothing (by simpa using hj) hys.length.symm,b9.refl _ _⟩
    ·have hold:(Builtin.firstCells i.size 0 (.slice a 0 0)).run P w.drew= .ok ([]:List Value).toArray w.drew:=lZ
     have hnew:(Builtin.firstCells i.size ny y').run P w.drew= .ok Mu.toArray w.drew:=by
      have:=Vp ny (Nat.le_refl _)
      rw [←hsz] at this xY
      rw [List.take_of_length_le (by omega)] at this
      exact this
     have hbb:(0+ny)*i.bytes≤140737488355328:=by
      have:ny*i.bytes≤2^38*256:=Nat.mul_le_mul xV hby
      rw [Nat.zero_add];omega
     have hrun:=ic (w:=w) (ty:=ty) ht hu hd hi hz hlen hold hnew (by omega) (by omega) hbb
     have fE:([]++Mu++(Builtin.zeroCells zv.cells (grownCap w (0+ny) 0 el-(0+ny))).toList).length=ny*(z+1)+(grownCap w (0+ny) 0 el-(0+ny))*(z+1):=by
      simp only [List.nil_append,List.length_append,dR,hzs,xY]
     have hge:0+ny≤grownCap w (0+ny) 0 el:=by unfold grownCap;simp [Question.cut]
     have hmul:ny*(z+1)+(grownCap w (0+ny) 0 el-(0+ny))*(z+1)=grownCap w (0+ny) 0 el*(z+1):=by rw [←Nat.add_mul];congr 1;omega
     have R2:=(R.drawn (w.drawn+1)).make (j:=j) (t:=el) (ps:=cy) (ys:=[]++Mu++(Builtin.zeroCells zv.cells (grownCap w (0+ny) 0 el-(0+ny))).toList) (by simpa using hj)
      (by rw [List.nil_append,List.take_append_of_le_length (by rw [B5.length];exact Nat.le_refl _),List.take_of_length_le (by rw [B5.length];exact Nat.le_refl _)];exact B5)
      (by rw [fE, ←B5.length,xY];omega)
     have hfree:=R.free (j:=j) (by rcases hj with g|g;exact .inl g;exact .inr (by simpa using g 0 (by simp)))
     refine ⟨_,_,_,_,(by simp only [Sem.run_bind,hrun,Result.andThen_ok,Sem.run_pure];try rfl),.inl rfl,.inr ⟨_,grownCap w (0+ny) 0 el,0,eB,by rw [Nat.zero_add],fun _=>by simp,by omega,(fun q=>by cases q),by omega,fun _=>?_⟩,R2,b9.of_le (jl hfree) rfl _⟩
     show 0+0*(z+1)+grownCap w (0+ny) 0 el*(z+1)≤_
     rw [fE,hmul];simp
   split at ha
   ·-- to nothing
    cases ha
    simp only [av,decide_eq_true_eq] at hp
    rw [VR] at hx
    exact key none _ hj hx hp.1.1 hp.1.2 hp.2
   ·rename_i b o ix z' len cap ex wh
    split at ha
    ·-- to what has no room
     rename_i hem
     cases ha
     simp only [av,decide_eq_true_eq] at hp
     have aje:ex=true∧cap=0:=by
      unfold Mb at hem
      split at hem
      ·cases hem
      ·split at hem
       ·exact ⟨rfl,Nat.eq_of_beq_eq_true hem⟩
       ·cases hem
     obtain ⟨rfl,rfl⟩:=aje
     rcases hx with ⟨_,_,a,rfl⟩|⟨p,cap',a,_,rfl,_,_,hex,hlc,_⟩
     ·exact key a _ hj rfl hp.1.1 hp.1.2 hp.2
     ·obtain rfl:=hex rfl
      obtain rfl:len=0:=by omega
      exact key _ _ hj rfl hp.1.1 hp.1.2 hp.2
    split at ha
    ·-- in place
     split at ha
     ·rename_i ki mm Mv hE0
      obtain ⟨⟨h1,q⟩,hw,rfl⟩:=Option.map_eq_some_iff.1 ha
      simp only [av,decide_eq_true_eq] at hp
      obtain ⟨⟨⟨rfl,hrow⟩,hfit⟩,rfl⟩:=hp
      obtain ⟨ys,hys,u5,hlen,hf⟩:=bV (P:=P) R JR sq hy hrow
      rw [Nat.mul_one] at u5
      obtain ⟨us,Be,lg⟩:=hys
      rw [PR] at Be;subst Be
      rw [List.append_nil] at lg
      have ajf:∀n,n≤ny→n≤Mv.length→aP ki (Mv.take n)=ys.take n:=fun n hn hn2=>by
       rw [lg, ←cI]
       congr 1
       apply List.ext_getElem?
       intro j
       by_cases hj:j<n
       ·have hmm:j<mm:=by
         have:=congrArg List.length lg
         rw [u5,az,aM] at this;omega
        rw [List.getElem?_take_of_lt hj,List.getElem?_take_of_lt hj,ji _ hmm,List.getD,List.getElem?_eq_getElem (by omega)];rfl
       ·rw [List.getElem?_take,if_neg hj,List.getElem?_take,if_neg hj]
      rcases hx with ⟨rfl,rfl,a,rfl⟩|⟨p,cap',a,Bc,rfl,Mw,hcap,hex,hlc,IV⟩
      ·have h0:ny=0:=by omega
       subst h0
       have hrun:=b8 (w:=w) (w':=w) (ty:=ty) (base:=a) (sLen:=0) (sCap:=0) (news:=[]) ht hu hd hi hlen (by have:=hf 0 (Nat.le_refl _);rw [hsz];simpa using this) (Nat.le_refl _) (by cases a with|none=>exact .inl ⟨rfl,rfl⟩|some a=>exact .inr ⟨a,rfl,rfl⟩)
       refine ⟨_,w,e,_,(by simp only [Sem.run_bind,hrun,Result.andThen_ok,Sem.run_pure];try rfl),.inl rfl,.inl ⟨rfl,rfl,a,rfl⟩,?_,b9.refl _ _⟩
       rw [bM]
       exact jZ R hw
      ·obtain ⟨w',hst,R'⟩:=qZ (P:=P) R hw Bc
       have ajg:ny≤Mv.length:=by
        obtain ⟨_,_,_,_,_,_,_,_,_,_,_,h⟩:=jo hw;exact h
       by_cases h0:ny=0
       ·subst h0
        have hrun:=b8 (w:=w) (w':=w) (ty:=ty) (base:=some ⟨p.n,a,none⟩) (sLen:=len) (sCap:=cap') (news:=[]) ht hu hd hi hlen (by have:=hf 0 (Nat.le_refl _);rw [hsz];simpa using this) (by omega) (.inr ⟨_,rfl,rfl⟩)
        refine ⟨_,w,e,_,(by simp only [Sem.run_bind,hrun,Result.andThen_ok,Sem.run_pure];try rfl),.inl rfl,.inr ⟨p,cap',a,Bc,rfl,Mw,hcap,hex,by omega,IV⟩,?_,b9.refl _ _⟩
        rw [bM]
        exact jZ R hw
       ·have GD:=Mw (by omega)
        have Yh:(⟨p.n,a,none⟩:Addr).add (len*i.size)=⟨p.n,p.base+(o+(ix+len)),none⟩:=by rw [fI,hsz,GD];congr 1;omega
        have hrun:=b8 (w:=w) (w':=w') (ty:=ty) (base:=some ⟨p.n,a,none⟩) (sLen:=len) (sCap:=cap') (news:=ys.take (ny*1)) ht hu hd hi hlen (by rw [hsz];exact hf ny (Nat.le_refl _)) (by omega)
         (.inr ⟨_,rfl,by rw [Yh,Nat.mul_one, ←ajf ny (Nat.le_refl _) ajg];exact hst⟩)
        refine ⟨_,w',e,_,(by simp only [Sem.run_bind,hrun,Result.andThen_ok,Sem.run_pure];try rfl),.inl rfl,.inr ⟨p,cap',a,Bc,rfl,Mw,hcap,hex,by omega,IV⟩,?_,b9.refl _ _⟩
        rw [bM]
        exact R'
     ·rename_i ki mm Mv hE0
      split at ha
      case h_2=>cases ha
      obtain ⟨⟨h1,q⟩,hw,rfl⟩:=Option.map_eq_some_iff.1 ha
      simp only [av,decide_eq_true_eq] at hp
      obtain ⟨⟨⟨rfl,hrow⟩,hfit⟩,rfl⟩:=hp
      unfold ad1 at hw
      split at hw
      case h_2=>cases hw
      rename_i k' m Yi hb
      split at hw
      case isFalse=>cases hw
      rename_i hkk
      subst hkk
      simp only [Option.some.injEq,Prod.mk.injEq,Bool.and_eq_true,decide_eq_true_eq] at hw
      obtain ⟨rfl,⟨uq,Vl⟩,Yj⟩:=hw
      subst Vl
      obtain ⟨ys,hys,u5,hlen,hf⟩:=bV (P:=P) R JR sq hy hrow
      rw [Nat.mul_one] at u5
      obtain ⟨us,Be,lg⟩:=hys
      rw [PR] at Be;subst Be
      rw [List.append_nil] at lg
      have hmm:mm=ny:=by
       have:=congrArg List.length lg
       rw [u5,az,aM] at this;omega
      subst hmm
      rw [aG Yj] at lg
      have hff:(Builtin.firstCells i.size mm y').run P w= .ok ys.toArray w:=by
       have:=hf mm (Nat.le_refl _)
       rw [List.take_of_length_le (by omega)] at this
       rw [hsz];exact this
      have uz:aC [SV.ints k' len Yi]=len:=by simp [aC,xM]
      have hone:∀v∈ys,v.oneCell'=true:=fun v hv=>by
       rw [lg] at hv
       obtain ⟨n,_,rfl⟩:=List.mem_map.1 hv
       rfl
      rcases hx with ⟨rfl,rfl,a,rfl⟩|⟨p,cap',a,Bc,rfl,Mw,hcap,hex,hlc,IV⟩
      ·have h0:mm=0:=by omega
       subst h0
       have P4:ys=[]:=List.length_eq_zero_iff.1 (by omega)
       subst P4
       have hrun:=b8 (w:=w) (w':=w) (ty:=ty) (base:=a) (sLen:=0) (sCap:=0) (news:=[]) ht hu hd hi hlen hff (Nat.le_refl _) (by cases a with|none=>exact .inl ⟨rfl,rfl⟩|some a=>exact .inr ⟨a,rfl,rfl⟩)
       refine ⟨_,w,e,_,(by simp only [Sem.run_bind,hrun,Result.andThen_ok,Sem.run_pure];try rfl),.inl rfl,.inl ⟨rfl,rfl,a,rfl⟩,?_,b9.refl _ _⟩
       rw [bM]
       have IW:Yi=[]:=List.length_eq_zero_iff.1 uq
       have hy0:Mv=[]:=List.length_eq_zero_iff.1 Yj
       subst IW hy0
       exact R.same hb (fun _ g=>g) rfl
      ·obtain ⟨c,t,hcell,aee,amh,qp⟩:=R.block Bc hb
       by_cases hc0:cap'=0
       ·have Ei:len=0:=by omega
        have h0:mm=0:=by omega
        subst hc0 Ei h0
        have P4:ys=[]:=List.length_eq_zero_iff.1 (by omega)
        subst P4
        have hrun:=b8 (w:=w) (w':=w) (ty:=ty) (base:=some ⟨p.n,a,none⟩) (sLen:=0) (sCap:=0) (news:=[]) ht hu hd hi hlen hff (Nat.le_refl _) (.inr ⟨_,rfl,rfl⟩)
        refine ⟨_,w,e,_,(by simp only [Sem.run_bind,hrun,Result.andThen_ok,Sem.run_pure];try rfl),.inl rfl,.inl ⟨rfl,by omega,_,rfl⟩,?_,b9.refl _ _⟩
        rw [bM]
        have IW:Yi=[]:=List.length_eq_zero_iff.1 uq
        have hy0:Mv=[]:=List.length_eq_zero_iff.1 Yj
        subst IW hy0
        exact R.same hb (fun _ g=>g) rfl
       ·have GD:=Mw hc0
        have Yk:=IV hc0
        obtain ⟨zs,hzn,hpe⟩:=qp
        rw [PR] at hzn;subst hzn
        rw [List.append_nil,aG uq] at hpe
        have hnew:aC [SV.ints k' (len+mm) (Yi++Mv)]=len+mm:=by simp [aC,xM]
        obtain ⟨w',hst,R'⟩:=R.Mk (P:=P) (ps:=[SV.ints k' len Yi]) Bc hcell aee ys [SV.ints k' (len+mm) (Yi++Mv)] (by rw [uz];omega) (by rw [hnew,uz];omega) hone
         ⟨[],rfl,by rw [hpe,lg,aG (by rw [List.length_append];omega),gq,List.append_nil]⟩
        have Yh:(⟨p.n,a,none⟩:Addr).add (len*i.size)=⟨p.n,p.base+aC [SV.ints k' len Yi],none⟩:=by rw [fI,hsz,GD,uz];congr 1;omega
        have hrun:=b8 (w:=w) (w':=w') (ty:=ty) (base:=some ⟨p.n,a,none⟩) (sLen:=len) (sCap:=cap') (news:=ys) ht hu hd hi hlen hff (by omega) (.inr ⟨_,rfl,by rw [Yh];exact hst⟩)
        refine ⟨_,w',e,_,(by simp only [Sem.run_bind,hrun,Result.andThen_ok,Sem.run_pure];try rfl),.inl rfl,.inr ⟨p,cap',a,Bc,rfl,Mw,hcap,hex,by omega,IV⟩,?_,b9.refl _ _⟩
        rw [bM]
        exact R'
     ·cases ha
    ·-- anywhere
     split at ha
     ·rename_i cx px Ep
      split at ha
      ·rename_i hc
       simp only [Bool.and_eq_true,decide_eq_true_eq] at hc
       obtain ⟨⟨⟨Mx,rfl⟩,aji⟩,hno⟩:=hc
       cases ha
       simp only [av,decide_eq_true_eq] at hp
       obtain ⟨⟨⟨⟨rfl,rfl⟩,hlx⟩,hrow⟩,xV⟩:=hp
       have hB:B.e.r b=none:=by
        cases hq:B.e.r b with
        |none=>rfl
        |some p=>have:=hk b p hq;have:=Nat.le_of_ble_eq_true Mx;omega
       obtain ⟨ps,hb⟩:∃ps,h[b]? =some (.b ps):=by
        unfold dI at Ep
        simp only at Ep
        split at Ep
        ·rename_i ps hps;exact ⟨ps,hps⟩
        ·cases Ep
       obtain ⟨xs,hxs,uq,amj,hfx⟩:=bV (P:=P) (z:=z+1) R Ep (n:=len) rfl hx (by simp [eg])
       obtain ⟨ys,hys,u5,hlen,hf⟩:=bV (P:=P) R JR sq hy hrow
       have GH:=nS hxs hys hlx
       have My:aC (mM cx cy)=(len+ny)*(z+1):=by
        have:=GH.length
        rw [List.length_append,uq,u5, ←Nat.add_mul] at this;exact this.symm
       -- on new ground
       have grow:∀(base:Option Addr) (sCap:Nat),x'= .slice base len sCap→sCap<len+ny→cT B e j ⟨.sl b 0 0 (z+1) (len+ny) (len+ny) false true,h.set b (.b (mM cx cy)),[],some b,true⟩ ((do pure (.value (←Builtin.append_ #[sT,xT] ty #[x',y'])):Sem Next).run P w):=fun base sCap hx' hlt=>by
        subst hx'
        obtain ⟨Yl,Ym,IX,_,Yn⟩:=bV (P:=P) (z:=z+1) (R.drawn (w.drawn+1)) Ep (n:=len) rfl hx (by simp [eg])
        obtain ⟨Mu,B5,xY,Vo,Vp⟩:=bV (P:=P) (R.drawn (w.drawn+1)) JR sq hy hrow
        have hold:(Builtin.firstCells i.size len (.slice base len sCap)).run P w.drew= .ok Yl.toArray w.drew:=by
         have:=Yn len (Nat.le_refl _)
         rw [List.take_of_length_le (by omega), ←hsz] at this
         exact this
        have hnew:(Builtin.firstCells i.size ny y').run P w.drew= .ok Mu.toArray w.drew:=by
         have:=Vp ny (Nat.le_refl _)
         rw [List.take_of_length_le (by omega), ←hsz] at this
         exact this
        have hbb:(len+ny)*i.bytes≤140737488355328:=by
         have:(len+ny)*i.bytes≤2^38*256:=Nat.mul_le_mul xV hby
         omega
        have hrun:=ic (w:=w) (ty:=ty) ht hu hd hi hz hlen hold hnew hlt (by omega) hbb
        have hge:len+ny≤grownCap w (len+ny) sCap el:=by unfold grownCap;simp [Question.cut]
        have fE:(Yl++Mu++(Builtin.zeroCells zv.cells (grownCap w (len+ny) sCap el-(len+ny))).toList).length=grownCap w (len+ny) sCap el*(z+1):=by
         simp only [List.length_append,dR,hzs,xY,IX, ←Nat.add_mul];congr 1;omega
        have z7:=nS Ym B5 hlx
        refine ⟨_,_,nN e b ⟨w.heap.size,0,grownCap w (len+ny) sCap el*(z+1)⟩,_,(by simp only [Sem.run_bind,hrun,Result.andThen_ok,Sem.run_pure];try rfl),.inl rfl,.inr ⟨_,grownCap w (len+ny) sCap el,0,eB,rfl,fun _=>by simp,hge,(fun q=>by cases q),hge,fun _=>by simp⟩,?_,⟨fun i p hi hpi=>?_,fun _ _ h=>h,Nat.le_refl _,rfl⟩⟩
        ·rw [bM]
         refine R.rebind hB hb hno rfl rfl rfl (by rw [World.size_alloc];exact Nat.le_succ _) (fun n hn _=>?_) (.inl (Nat.le_refl _)) (heap_alloc_new _ _) (by rw [Nat.zero_add, ←fE];exact Nat.le_refl _) (by rw [My];exact Nat.mul_le_mul_right _ hge) ?_
         ·exact heap_alloc_old w.drew _ n hn
         ·simp only [List.drop_zero]
          rw [List.take_append_of_le_length (by rw [My,List.length_append,IX,xY, ←Nat.add_mul];exact Nat.le_refl _),List.take_of_length_le (by rw [My,List.length_append,IX,xY, ←Nat.add_mul];exact Nat.le_refl _)]
          exact z7
        ·show (if i=b then _ else e.r i)=some p
         rw [if_neg (fun q=>hi (by rw [q]))];exact hpi
       rcases hx with ⟨rfl,rfl,a,rfl⟩|⟨p,cap',a,Bc,rfl,Mw,hcap,hex,hlc,IV⟩
       ·by_cases h0:ny=0
        ·subst h0
         have hrun:=b8 (w:=w) (w':=w) (ty:=ty) (base:=a) (sLen:=0) (sCap:=0) (news:=[]) ht hu hd hi hlen (by have:=hf 0 (Nat.le_refl _);rw [hsz];simpa using this) (Nat.le_refl _) (by cases a with|none=>exact .inl ⟨rfl,rfl⟩|some a=>exact .inr ⟨a,rfl,rfl⟩)
         refine ⟨_,w,e,_,(by simp only [Sem.run_bind,hrun,Result.andThen_ok,Sem.run_pure];try rfl),.inl rfl,.inl ⟨rfl,rfl,a,rfl⟩,?_,b9.refl _ _⟩
         rw [bM]
         have IW:xs=[]:=List.length_eq_zero_iff.1 (by rw [uq];simp)
         have P4:ys=[]:=List.length_eq_zero_iff.1 (by rw [u5];simp)
         subst IW P4
         exact R.zero hb GH
        ·exact grow a 0 rfl (by omega)
       ·by_cases hroom:len+ny≤cap'
        ·have hoff:cap'≠0∨(len=0∧ny=0):=by omega
         obtain ⟨c,t,hcell,aee,uz,qp⟩:=R.block Bc hb
         by_cases hc0:cap'=0
         ·have Ei:len=0:=by omega
          have hn0:ny=0:=by omega
          subst hc0 Ei hn0
          have hrun:=b8 (w:=w) (w':=w) (ty:=ty) (base:=some ⟨p.n,a,none⟩) (sLen:=0) (sCap:=0) (news:=[]) ht hu hd hi hlen (by have:=hf 0 (Nat.le_refl _);rw [hsz];simpa using this) (Nat.le_refl _) (.inr ⟨_,rfl,rfl⟩)
          refine ⟨_,w,e,_,(by simp only [Sem.run_bind,hrun,Result.andThen_ok,Sem.run_pure];try rfl),.inl rfl,.inl ⟨rfl,rfl,_,rfl⟩,?_,b9.refl _ _⟩
          rw [bM]
          have IW:xs=[]:=List.length_eq_zero_iff.1 (by rw [uq];simp)
          have P4:ys=[]:=List.length_eq_zero_iff.1 (by rw [u5];simp)
          subst IW P4
          exact R.zero hb GH
         ·have GD:=Mw hc0
          have Yk:=IV hc0
          have hnews:ys.length=ny*(z+1):=u5
          have hone:∀v∈ys,v.oneCell'=true:=pG hys aji
          have hmul:(len+ny)*(z+1)≤cap'*(z+1):=Nat.mul_le_mul_right _ hroom
          have hsplit:(len+ny)*(z+1)=len*(z+1)+ny*(z+1):=Nat.add_mul _ _ _
          have hst:=run_storeCells_at P p.n (a+len*(z+1)) t ys 0 c w hcell (by omega) hone
          simp only [Nat.add_zero] at hst
          have hrun:=b8 (w:=w) (ty:=ty) (base:=some ⟨p.n,a,none⟩) (sLen:=len) (sCap:=cap') (news:=ys) ht hu hd hi hlen (by have:=hf ny (Nat.le_refl _);rw [hsz,this,List.take_of_length_le (by omega)]) hroom
           (.inr ⟨_,rfl,by rw [fI,hsz];exact hst⟩)
          have RY:xs=(c.toList.drop a).take (len*(z+1)):=by
           have h1:=hfx len (Nat.le_refl _)
           rw [lf hcell (by omega),List.take_of_length_le (l:=xs) (by omega)] at h1
           have h2:((c.toList.drop a).take (len*(z+1))).toArray=xs.toArray:=(Result.ok.inj h1).1
           exact (congrArg Array.toList h2).symm
          refine ⟨_,_,nN e b ⟨p.n,a,cap'*(z+1)⟩,_,(by simp only [Sem.run_bind,hrun,Result.andThen_ok,Sem.run_pure];try rfl),.inl rfl,.inr ⟨_,cap',a,eB,rfl,fun _=>by simp,hroom,(fun q=>by cases q),hroom,fun _=>by simp⟩,?_,⟨fun i p hi hpi=>?_,fun _ _ h=>h,Nat.le_refl _,rfl⟩⟩
          ·rw [bM]
           refine R.rebind hB hb hno rfl rfl rfl (by simp [World.setRow]) (fun n hn hne=>setRow_other w p.n n _ (fun q=>hne p Bc q.symm)) (.inr ⟨p,Bc,rfl⟩) (setRow_heap w p.n c _ t (0,0) hcell) (by simp;omega) (by rw [My];exact hmul) ?_
           rw [My]
           have hgoal:((c.toList.take (a+len*(z+1))++ys++c.toList.drop (a+len*(z+1)+ys.length)).drop a).take ((len+ny)*(z+1))=xs++ys:=by
            rw [List.append_assoc,List.drop_append_of_le_length (by simp;omega),List.drop_take,Nat.add_sub_cancel_left, ←RY, ←List.append_assoc,
             List.take_append_of_le_length (by rw [List.length_append];omega),List.take_of_length_le (by rw [List.length_append];omega)]
           simp only []
           rw [hgoal]
           exact GH
          ·show (if i=b then _ else e.r i)=some _
           rw [if_neg (fun q=>hi (by rw [q]))];exact hpi
        ·exact grow _ cap' rfl (by omega)
      ·split at ha
       case isFalse=>cases ha
       rename_i hc2
       simp only [Bool.and_eq_true,decide_eq_true_eq] at hc2
       obtain ⟨rfl,rfl⟩:=hc2
       cases ha
       simp only [av,decide_eq_true_eq] at hp
       obtain ⟨⟨⟨⟨⟨rfl,rfl⟩,hlx⟩,hrow⟩,xV⟩,Vq⟩:=hp
       have hfree:=R.free (j:=j) (by rcases hj with g|g;exact .inl g;exact .inr (by simpa using g 0 (by simp)))
       have Vr:∀(base:Option Addr) (sCap:Nat),x'= .slice base len sCap→sCap<len+ny→cT B e j ⟨.sl j 0 0 (z+1) (len+ny) (len+ny) false true,h,[.b (mM cx cy)],none,true⟩ ((do pure (.value (←Builtin.append_ #[sT,xT] ty #[x',y'])):Sem Next).run P w):=fun base sCap hx' hlt=>by
        subst hx'
        obtain ⟨Yl,Ym,IX,_,Yn⟩:=bV (P:=P) (z:=z+1) (R.drawn (w.drawn+1)) Ep (n:=len) rfl hx (by simp [eg])
        obtain ⟨Mv,_,_,hlen,_⟩:=bV (P:=P) R JR sq hy hrow
        obtain ⟨Mu,B5,xY,Vo,Vp⟩:=bV (P:=P) (R.drawn (w.drawn+1)) JR sq hy hrow
        have hold:(Builtin.firstCells i.size len (.slice base len sCap)).run P w.drew= .ok Yl.toArray w.drew:=by
         have:=Yn len (Nat.le_refl _)
         rw [List.take_of_length_le (by omega), ←hsz] at this
         exact this
        have hnew:(Builtin.firstCells i.size ny y').run P w.drew= .ok Mu.toArray w.drew:=by
         have:=Vp ny (Nat.le_refl _)
         rw [List.take_of_length_le (by omega), ←hsz] at this
         exact this
        have hbb:(len+ny)*i.bytes≤140737488355328:=by
         have:(len+ny)*i.bytes≤2^38*256:=Nat.mul_le_mul xV hby
         omega
        have hrun:=ic (w:=w) (ty:=ty) ht hu hd hi hz hlen hold hnew hlt (by omega) hbb
        have hge:len+ny≤grownCap w (len+ny) sCap el:=by unfold grownCap;simp [Question.cut]
        have fE:(Yl++Mu++(Builtin.zeroCells zv.cells (grownCap w (len+ny) sCap el-(len+ny))).toList).length=grownCap w (len+ny) sCap el*(z+1):=by
         simp only [List.length_append,dR,hzs,xY,IX, ←Nat.add_mul];congr 1;omega
        have z7:=nS Ym B5 hlx
        have mS:(Yl++Mu).length=aC (mM cx cy):=z7.length
        have My:aC (mM cx cy)=(len+ny)*(z+1):=by
         rw [←mS,List.length_append,IX,xY, ←Nat.add_mul]
        have R2:=(R.drawn (w.drawn+1)).make (j:=j) (t:=el) (ps:=mM cx cy) (ys:=Yl++Mu++(Builtin.zeroCells zv.cells (grownCap w (len+ny) sCap el-(len+ny))).toList) (by simpa using hj)
         (by rw [List.take_append_of_le_length (Nat.le_of_eq mS.symm),List.take_of_length_le (Nat.le_of_eq mS)];exact z7)
         (by rw [fE,My];exact Nat.mul_le_mul_right _ hge)
        refine ⟨_,_,_,_,(by simp only [Sem.run_bind,hrun,Result.andThen_ok,Sem.run_pure];try rfl),.inl rfl,.inr ⟨_,grownCap w (len+ny) sCap el,0,eB,rfl,fun _=>by simp,hge,(fun q=>by cases q),hge,fun _=>?_⟩,R2,b9.of_le (jl hfree) rfl _⟩
        show 0+0*(z+1)+grownCap w (len+ny) sCap el*(z+1)≤_
        rw [fE];simp
       rcases hx with ⟨rfl,rfl,a,rfl⟩|⟨p,cap',a,Bc,rfl,Mw,hcap,hex,hlc,IV⟩
       ·exact Vr a 0 rfl Vq
       ·exact Vr _ cap' rfl (by rw [hex rfl];exact Vq)
     ·cases ha
   ·cases ha
  ·cases ha
 ·cases ha
end
end Go.Sy
namespace Go.Sy
open Go
section
variable {P:Program} {e:Env} {B:dL} {h:List Blk} {w:World}
theorem B6 (R:Rel B e h w) {dT sT ty:TypeId} {x y v:SV} {x' y':Value} {h':List Blk} (hc:Mc P h dT x y=some (h',v,true)) (hx:VR e x x') (hy:VR e y y'):
  ∃v' w',(Builtin.copy_ #[dT,sT] ty #[x',y']).run P w= .ok v' w'∧VR e v v'∧Rel B e h' w':=by
 unfold Mc at hc
 split at hc
 ·rename_i el b o i len cap ex wh k mm Mv p ny ht JR sq
  split at hc
  ·rename_i hs
   obtain ⟨⟨h1,q⟩,hw,h2⟩:=Option.map_eq_some_iff.1 hc
   simp only [Prod.mk.injEq,av] at h2
   obtain ⟨rfl,rfl,⟨rfl,hrow⟩,rfl⟩:=h2
   obtain ⟨ys,hys,u5,hlen,hf⟩:=bV (P:=P) R JR sq hy hrow
   obtain ⟨us,Be,lg⟩:=hys
   rw [PR] at Be;subst Be
   rw [List.append_nil] at lg
   have hfc:=hf (Nat.min ny len) (Nat.min_le_left _ _)
   rw [Nat.mul_one] at hfc u5
   obtain ⟨info,hi,hsz⟩:=yA hs
   have hrun:∀(base:Option Addr) (cap:Nat) (w':World),x'= .slice base len cap→((base=none∧w'=w)∨∃a,base=some a∧(storeCells a (ys.take (Nat.min ny len)) 0).run P w= .ok () w')→
     (Builtin.copy_ #[dT,sT] ty #[x',y']).run P w= .ok (.int .i64 (Nat.min ny len)) w':=fun base cap w' hx' hst=>by
    subst hx'
    unfold Builtin.copy_
    simp only [List.getElem?_toArray,List.getElem?_cons_zero,List.getElem?_cons_succ,Sem.run_bind,run_underlying ht,Result.andThen_ok,hlen,b7 hs,hfc]
    rcases hst with ⟨rfl,rfl⟩|⟨a,rfl,hr⟩
    ·simp [goInt]
    ·simp [hr,goInt]
   rcases hx with ⟨rfl,rfl,a,hx'⟩|⟨pl,cap',a,Bc,hx',Mw,hcap,hex,hlc,IV⟩
   ·have h0:Nat.min ny 0=0:=Nat.min_eq_right (Nat.zero_le _)
    rw [h0] at hw
    refine ⟨_,w,hrun a 0 w hx' ?_,rfl,jZ R hw⟩
    cases a with
    |none=>exact .inl ⟨rfl,rfl⟩
    |some a=>exact .inr ⟨a,rfl,by rw [h0];rfl⟩
   ·by_cases h0:Nat.min ny len=0
    ·rw [h0] at hw
     exact ⟨_,w,hrun _ cap' w hx' (.inr ⟨_,rfl,by rw [h0];rfl⟩),by rw [h0];rfl,jZ R hw⟩
    ·obtain ⟨w',hst,R'⟩:=qZ (P:=P) R hw Bc
     have hle:Nat.min ny len≤len:=Nat.min_le_right _ _
     have GD:=Mw (by omega)
     refine ⟨_,w',hrun _ cap' w' hx' (.inr ⟨_,rfl,?_⟩),rfl,R'⟩
     obtain ⟨_,_,_,_,_,_,_,_,_,_,_,qt⟩:=jo hw
     have fE:aP k (Mv.take (Nat.min ny len))=ys.take (Nat.min ny len):=by
      rw [lg, ←cI]
      congr 1
      apply List.ext_getElem?
      intro j
      have hmm:mm=ny:=by
       have:=congrArg List.length lg
       rw [u5,az,aM] at this;exact this.symm
      by_cases hj:j<Nat.min ny len
      ·have h1:Nat.min ny len≤ny:=Nat.min_le_left ny len
       rw [List.getElem?_take_of_lt hj,List.getElem?_take_of_lt hj,ji _ (by omega),List.getD,List.getElem?_eq_getElem (by omega)];rfl
      ·rw [List.getElem?_take,if_neg hj,List.getElem?_take,if_neg hj]
     rw [←fE,GD,Nat.mul_one]
     exact hst
  ·cases hc
 ·cases hc
theorem B7 {xs:List Int} (h:bE xs=true):iG (strOfNums xs)=xs:=by
 unfold iG strOfNums
 simp only [List.map_map]
 have:∀l:List Int,bE l=true→l.map ((fun b:UInt8=>(b.toNat:Int)) ∘ fun n=>UInt8.ofNat n.toNat)=l:=by
  intro l
  induction l with
  |nil=>intro _;rfl
  |cons n l ih=>
   intro hl
   simp only [bE,List.all_cons,Bool.and_eq_true,decide_eq_true_eq] at hl
   rw [List.map_cons,ih (by simpa [bE] using hl.2)]
   congr 1
   show ((UInt8.ofNat n.toNat).toNat:Int)=n
   rw [UInt8.toNat_ofNat']
   omega
 exact this xs h
theorem wz (R:Rel B e h w) {src dst el:TypeId} {a:SV} {a':Value} {m:Nat} {xs:List Int} {n:Nat} (hs:P.underlying src=some (.slice el)) (hd:P.underlying dst=some .string) (he:isInt P el=some .u8)
  (hc:dI h a=some ([.ints .u8 m xs],true)) (hn:uy a=some n) (hrow:eg 1 a=true) (Vs:∀s,a≠.str s) (hl:xs.length=m) (hu:bE xs=true) (ha:VR e a a'):
  (convert src dst a').run P w= .ok (.string (strOfNums xs)) w:=by
 obtain ⟨ys,hys,u5,hlen,hf⟩:=bV (P:=P) R hc hn ha hrow
 obtain ⟨us,Be,lg⟩:=hys
 rw [PR] at Be;subst Be
 rw [List.append_nil,aG hl] at lg
 rw [Nat.mul_one] at u5
 have hf':=hf n (Nat.le_refl _)
 rw [Nat.mul_one,List.take_of_length_le (by omega),lg] at hf'
 have he':=kZ he
 rcases wo ha hn with ⟨ad,c,rfl⟩|⟨s,_,_,s',q⟩
 ·cases ad with
  |none=>
   have:xs=[]:=by
    simp [Builtin.firstCells] at hf'
    cases xs with
    |nil=>rfl
    |cons x xs=>simp [aP] at hf'
   subst this
   rw [run_convert_bytes_nil w src el hs he' n c dst hd]
   rfl
  |some ad=>
   have mS:(loadCells ad n).run P w= .ok (xs.map (Value.int .u8)).toArray w:=by
    simpa [Builtin.firstCells,aP] using hf'
   rw [run_convert_bytes_string w src dst el _ n c hs he' hd,run_bytesToString w _ n c xs mS,foldl_push_bytes]
   simp [strOfNums,ByteArray.empty,ByteArray.emptyWithCapacity]
   rfl
 ·exact absurd q (Vs s')
theorem wD (R:Rel B e h w) {src dst el:TypeId} {s:ByteArray} (hs:(P.underlying src).isSome=true) (hd:P.underlying dst=some (.slice el)) (he:isInt P el=some .u8):
  ∃v' w' e',(convert src dst (.string s)).run P w= .ok v' w'∧VR e' (.ro true .u8 (iG s)) v'∧Rel B e' h w'∧b9 e e' none:=by
 obtain ⟨d,RZ⟩:=Option.isSome_iff_exists.1 hs
 have he':=kZ he
 have aeg:(convert src dst (.string s)).run P w=(Conv.stringToBytes el s).run P w:=by
  cases d<;>simp [convert,run_underlying RZ,run_underlying hd,run_underlying he']
 let cap:=(Question.appendCap s.size 0 el).cut (w.tape w.drawn (.appendCap s.size 0 el))
 have hcap:s.size≤cap:=by simp [cap,Question.cut]
 let cells:Array Value:=(s.data.map fun b=>Value.int .u8 b.toNat)++Array.replicate (cap-s.size) (.int .u8 0)
 have hcs:cells.size=cap:=by
  have:s.data.size=s.size:=rfl
  simp [cells];omega
 have hch:(choose (.appendCap s.size 0 el)).run P w= .ok cap w.drew:=by simp [Question.forced,cap]
 let w1:World:=w.drew.alloc (.cells cells el)
 have hw1:w1.heap[w.heap.size]? =some (.cells cells el (0,0)):=heap_alloc_new _ _
 let w2:=w1.freeze ⟨w.heap.size,cells.size,none⟩ 1
 have hfz:w2.heap[w.heap.size]? =some (.cells cells el (cells.size,cells.size+1)):=by
  have hlt:w.heap.size<w1.heap.size:=(Array.getElem?_eq_some_iff.1 hw1).1
  have hv:w1.heap[w.heap.size]= .cells cells el (0,0):=(Array.getElem?_eq_some_iff.1 hw1).2
  simp only [w2,World.freeze]
  rw [if_neg (by omega)]
  simp only []
  rw [Array.getElem?_eq_getElem (by simpa using hlt),Array.getElem_modify]
  simp [hv]
 have cP:∀n,n<w.heap.size→w2.heap[n]? =w.heap[n]? :=fun n hn=>by
  simp only [w2,World.freeze]
  rw [if_neg (by omega)]
  simp only []
  rw [Array.getElem?_modify,if_neg (by omega)]
  exact heap_alloc_old w.drew _ n hn
 have hsize:w2.heap.size=w.heap.size+1:=by
  simp only [w2,World.freeze]
  rw [if_neg (by omega)]
  simp only [Array.size_modify]
  exact World.size_alloc _ _
 have hrun:(Conv.stringToBytes el s).run P w= .ok (.slice (some ⟨w.heap.size,0,none⟩) s.size cap) w2:=by
  unfold Conv.stringToBytes
  rw [Sem.run_bind,hch,Result.andThen_ok]
  simp only [Sem.run_bind,newRow,newObj]
  have hn:(Sem.new (.cells cells el) Sem.pure).run P w.drew= .ok w.heap.size w1:=rfl
  have hmk:(markStringish ⟨w.heap.size,0,none⟩).run P w1= .ok () w2:=by
   unfold markStringish
   simp only [Sem.run_bind]
   have:(shape w.heap.size).run P w1= .ok (some (el,cells.size)) w1:=by
    show Result.ok (w1.shape? w.heap.size) w1=_
    simp [World.shape?,hw1]
   rw [this]
   rfl
  rw [show (Sem.new (.cells ((s.data.map fun b=>Value.int .u8 b.toNat)++Array.replicate (cap-s.size) (.int .u8 0)) el) Sem.pure).run P w.drew= .ok w.heap.size w1 from rfl]
  simp only [Result.andThen_ok,Sem.run_pure,hmk]
 let e':Env:={e with z:=fun n=>if n=w.heap.size then some (cells,el,(cells.size,cells.size+1)) else e.z n}
 have hz0:e.z w.heap.size=none:=by
  cases hq:e.z w.heap.size with
  |none=>rfl
  |some x=>have:=R.P1 hq;omega
 have hle:Env.Le e e':=⟨fun _ _ h=>h,fun n o hn=>by
  show (if n=w.heap.size then _ else e.z n)=some o
  rw [if_neg (fun q=>by subst q;rw [hz0] at hn;cases hn)];exact hn,Nat.le_refl _⟩
 have hn0:e.n0≤w.heap.size:=by have:=R.n0;have:=R.cW;have:=R.size;omega
 refine ⟨_,w2,e',by rw [aeg,hrun],.inr ⟨w.heap.size,0,cap,cells,el,_,by rw [eW],if_pos rfl,fun _=>hn0,?_,by rw [eW];exact hcap,by omega⟩,?_,b9.of_le hle rfl _⟩
 ·have:cells.toList=aP .u8 (iG s)++List.replicate (cap-s.size) (.int .u8 0):=by
   simp [cells,aP,iG]
  rw [this,List.drop_zero,List.take_append_of_le_length (by rw [az];exact Nat.le_refl _),List.take_of_length_le (by rw [az];exact Nat.le_refl _)]
 ·exact {
   os:=R.os,tape:=R.tape,output:=R.output
   size:=by have:=R.size;omega
   inj:=R.inj,dom:=R.dom
   sep:=fun i p hi=>by
    show (if p.n=w.heap.size then _ else e.z p.n)=none
    rw [if_neg (by have:=R.lt hi;omega)];exact R.sep i p hi
   g6:=fun n c t fr hz=>by
    by_cases hn:n=w.heap.size
    ·subst hn
     have ku:(if w.heap.size=w.heap.size then some (cells,el,(cells.size,cells.size+1)) else e.z w.heap.size)=some (c,t,fr):=hz
     rw [if_pos rfl] at ku
     cases ku
     exact hfz
    ·have ku:(if n=w.heap.size then some (cells,el,(cells.size,cells.size+1)) else e.z n)=some (c,t,fr):=hz
     rw [if_neg hn] at ku
     rw [cP n (R.P1 ku)];exact R.g6 n c t fr ku
   bz:=fun n x hz=>by
    by_cases hn:n=w.heap.size
    ·exact .inr (by have:=R.size;omega)
    ·have ku:(if n=w.heap.size then some (cells,el,(cells.size,cells.size+1)) else e.z n)=some x:=hz
     rw [if_neg hn] at ku
     exact R.bz n x ku
   news:=R.news,bF:=R.bF
   bZ:=fun n x hz=>hle.z n x (R.bZ n x hz)
   n0:=R.n0,cW:=R.cW
   gj:=fun i qs hi=>by
    rcases R.gj i qs hi with g|⟨p,o,g1,g2,g3⟩
    ·exact .inl g
    ·exact .inr ⟨p,o,g1,by rw [cP p.n (R.lt g1)];exact g2,g3.mono hle⟩
   gap:=fun i g hi=>⟨(R.gap i g hi).1,(R.gap i g hi).2.le (fun n o hn=>by rw [cP n (Array.getElem?_eq_some_iff.1 hn).1];exact hn) rfl hle⟩
   yi:=R.yi,yb:=R.yb
   old:=fun n hn hno qt=>by rw [cP n (by have:=R.size;omega)];exact R.old n hn hno qt
   win:=fun i p hi=>by
    obtain ⟨o,o',ho,ho',P2⟩:=R.win i p hi
    exact ⟨o,o',ho,by rw [cP p.n (R.lt (R.bF i p hi))];exact ho',P2⟩
   kr:=R.kr,iO:=R.iO
   iZ:=fun r hr=>by
    have:=R.iZ r hr
    rw [cP r (Array.getElem?_eq_some_iff.1 this.1).1];exact this
   kf:=R.kf}
end
end Go.Sy
namespace Go.Sy
open Go
def wF (ro:Option Nat):Fence:={Fence.wide with round:=ro}
def nT (P:Program) (f:Fn) (args:Array Value) (w:World) (R:Value→World→Prop):Prop:=match f with
 | .func f=>(∃v w',(callFunc f args).run P w= .ok (.value v) w'∧R v w')∨
  ((callFunc f args).run P w= .ok (.enter f args) w∧Calls P f args w fun e w'=>∃v,e= .returned v∧R v w')
 | .yield l=>∃fn tmps qE body,(Instr.yield l args).run P w= .ok (.round l fn tmps qE body) w∧∀ro n,RoundIn (wF ro) n P l fn tmps qE body w fun e w'=>∃v,e= .returned v∧R v w'
 |_=>False
theorem nT.mono {P:Program} {f:Fn} {args:Array Value} {w:World} {R R':Value→World→Prop} (h:nT P f args w R) (hr:∀v w',R v w'→R' v w'):nT P f args w R':=by
 cases f with
 |func f=>
  rcases h with ⟨v,w',e,h⟩|⟨e,h⟩
  ·exact .inl ⟨v,w',e,hr _ _ h⟩
  ·refine .inr ⟨e,?_⟩
   intro cs
   obtain ⟨e,w',fr,⟨v,he,hv⟩,rest⟩:=h cs
   exact ⟨e,w',fr,⟨v,he,hr _ _ hv⟩,rest⟩
 |yield l=>
  obtain ⟨fn,tmps,qE,body,h1,h2⟩:=h
  exact ⟨fn,tmps,qE,body,h1,fun ro n=>RoundIn.mono (h2 ro n) fun e w' ⟨v,g1,g2⟩=>⟨v,g1,hr _ _ g2⟩⟩
 |_=>exact h.elim
def fnG (g:L6):bK:=fun f vs h j=>match f with
 | .func f=>g f vs h j
 |_=>none
def p8 (P:Program) (G:bK):Prop:=
 ∀f vs h j v h' new,G f vs h j=some (v,h',new,true)→∀(B:dL) (e:Env) (w:World) (args:List Value),LR e vs args→Rel B e h w→ld h j new.length→
  nT P f ⟨args⟩ w fun v' w'=>∃e',VR e' v v'∧Rel B e' (b6 h' j new) w'∧b9 e e' none
theorem IY (P:Program) (ro:Option Nat) (m:Machine):m.fenced P (wF ro):=by
 intro g _
 exact ⟨fun h=>by simp [wF,Fence.wide] at h,.inl trivial,fun _ _=>trivial,fun _ h=>by simp [wF,Fence.wide] at h⟩
theorem wE {P:Program} {ro:Option Nat} {m m':Machine}:StepsIn (Machine.fenced P (wF ro)) P m m'↔Steps P m m':=
 ⟨StepsIn.steps,fun h=>(StepsIn.of_steps h).mono fun m _=>IY P ro m⟩
theorem p9 {ro:Option Nat} {n:Nat} {P:Program} {f:FuncId} {args:Array Value} {w:World} {R:Ending→World→Prop}:CallsIn (wF ro) n P f args w R↔Calls P f args w R:=by
 have hc:∀{m m':Machine} {e:Ending},ComesIn (Machine.fenced P (wF ro)) P m m' e↔Comes P m m' e:=fun {m m' e}=>by
  cases e with
  |returned v=>exact wE
  |panicked chain=>exact wE
  |outgrown=>exact Iff.rfl
 exact ⟨fun h cs=>let ⟨e,w',fr,r,s,x⟩:=h.2 cs (fun _ h=>by simp [wF,Fence.wide] at h);⟨e,w',fr,r,hc.1 s,x⟩,
  fun h=>⟨trivial,fun cs _=>let ⟨e,w',fr,r,s,x⟩:=h cs;⟨e,w',fr,r,hc.2 s,x⟩⟩⟩
def R5 (P:Program) (g:L6):Prop:=
 ∀f vs h j v h' new,g f vs h j=some (v,h',new,true)→∀(B:dL) (e:Env) (w:World) (args:List Value),LR e vs args→Rel B e h w→ld h j new.length→
  nT P (.func f) ⟨args⟩ w fun v' w'=>∃e',VR e' v v'∧Rel B e' (b6 h' j new) w'∧b9 e e' none
section
variable {P:Program} {e:Env} {B:dL} {h:List Blk} {w:World}
theorem cT.value {j:Nat} {v:SV} {v':Value} {s:Sem Value} (R:Rel B e h w) (hr:s.run P w= .ok v' w) (hv:VR e v v'):cT B e j (.of h (v,true)) ((do pure (.value (←s)):Sem Next).run P w):=
 ⟨.value v',w,e,v',by simp [hr],.inl rfl,hv,by show Rel B e (b6 h j []) w;rw [bM];exact R,b9.refl _ _⟩
theorem cT.tV {j:Nat} {v:SV} {v':Value} (R:Rel B e h w) (hv:VR e v v'):cT B e j (.of h (v,true)) ((pure (.value v'):Sem Next).run P w):=
 ⟨.value v',w,e,v',rfl,.inl rfl,hv,by show Rel B e (b6 h j []) w;rw [bM];exact R,b9.refl _ _⟩
theorem cT.make {j:Nat} {v:SV} {v':Value} {ps:List SV} {ys:List Value} {el:TypeId} {s:Sem Value} {r:jX} (R:Rel B e h w) (hf:ld h j 1) (hl:PR e ps (ys.take (aC ps))) (hle:aC ps≤ys.length)
  (hr:s.run P w= .ok v' (w.alloc (.cells ⟨ys⟩ el))) (hv:VR (nN e j ⟨w.heap.size,0,ys.length⟩) v v') (h1:r.v=v) (h2:r.h=h) (h3:r.new=[.b ps]):cT B e j r ((do pure (.value (←s)):Sem Next).run P w):=by
 have hj:j=h.length∨h[j]? =some .gap:=hf.imp id fun g=>by simpa using g 0 (by omega)
 exact ⟨.value v',w.alloc (.cells ⟨ys⟩ el),nN e j ⟨w.heap.size,0,ys.length⟩,v',(by simp only [Sem.run_bind,hr,Result.andThen_ok,Sem.run_pure]),.inl rfl,(by rw [h1];exact hv),(by rw [h2,h3];exact R.make hf hl hle),b9.of_le (jl (R.free hj)) rfl _⟩
theorem nU {t:List (Option SV)} {t':List Value} {d:List Deferred} (h:TR e t t'):∀(ps:List (Nat×Operand)) (vs:List SV),uv t (ps.map (·.2))=some vs→
  VP e ((ps.map (·.1)).zip vs) (ps.map fun (i,x)=>(i,Act.eval ⟨⟨t'⟩,d⟩ x))
 | [],vs,_=>by simp [VP]
 |(i,x)::ps,vs,g=>by
  simp only [List.map_cons,uv] at g
  split at g
  ·rename_i v vs' hx hxs
   cases g
   exact ⟨_,_,aN h hx,nU h ps vs' hxs,rfl⟩
  ·cases g
theorem map_toArray (ps:Array (Nat×Operand)) (f:Operand→Value):(ps.map fun (i,x)=>(i,f x))=(ps.toList.map fun (i,x)=>(i,f x)).toArray:=by
 apply Array.ext'
 simp
theorem Ev {v:SV} (h:(partsOf v).all (fun p=>one p||!aU p)=true) (hn:aU v=true):one v=true∨∃ps,v= .agg ps:=by
 by_cases ha:∃ps,v= .agg ps
 ·exact .inr ha
 ·left
  have h1:partsOf v=[v]:=by cases v<;>first|rfl|exact absurd ⟨_,rfl⟩ ha
  rw [h1] at h
  simpa [hn] using h
theorem VR.aU {v:SV} {v':Value} (h:VR e v v'):aU v=true:=by cases v<;>first|rfl|exact h.elim
theorem VR.B8 {j n z len cap size:Nat} {wh:Bool} (h1:cap*z≤size) (h2:len≤cap):VR (nN e j ⟨n,0,size⟩) (.sl j 0 0 z len cap true wh) (.slice (some ⟨n,0,none⟩) len cap):=by
 right
 refine ⟨⟨n,0,size⟩,cap,0,eB,rfl,fun _=>?_,Nat.le_refl _,fun _=>rfl,h2,fun _=>?_⟩
 ·simp
 ·simpa using h1
abbrev Vt (P:Program) (B:dL) (e:Env) (w:World) (j:Nat) (r:jX) (s:Sem Value):Prop:=cT B e j r ((do pure (.value (←s)):Sem Next).run P w)
variable {j:Nat} {t:List (Option SV)} {t':List Value} {d:List Deferred} {r:jX}
theorem Mz {el:TypeId} (R:Rel B e h w) (g:(kU P el).map (fun ps=>(⟨.ptr j 0 0,h,[.b ps],none,true⟩:jX))=some r) (hj:ld h j r.new.length):Vt P B e w j r (Instr.alloc el true (.tuple #[])):=by
 obtain ⟨ps,hz,rfl⟩:=Option.map_eq_some_iff.1 g
 obtain ⟨z,hz1,Vu⟩:=iH (e:=e) hz
 have hlen:=Vu.length
 refine cT.make (v:=.ptr j 0 0) R hj (ps:=ps) (ys:=z.cells.toList) (el:=el) (by rw [List.take_of_length_le (by omega)];exact Vu) (by omega) (v':=.pointer (some ⟨w.heap.size,0,none⟩)) ?_ ⟨_,eB,rfl⟩ rfl rfl rfl
 simp [Instr.alloc,jH hz1,newVar,newRow,newObj,Sem.run]
theorem Yo {el:TypeId} {x:Operand} (hl:TR e t t') (R:Rel B e h w) (g:(ev t x).map (fun v=>(⟨.ptr j 0 0,h,[.b (partsOf v)],none,(partsOf v).all fun p=>one p||!aU p⟩:jX))=some r) (hp:r.p=true) (hj:ld h j r.new.length):Vt P B e w j r (Instr.box el (Act.eval ⟨⟨t'⟩,d⟩ x)):=by
 obtain ⟨v,hx,rfl⟩:=Option.map_eq_some_iff.1 g
 have hv:=aN (d:=d) hl hx
 have hps:=hv.parts (Ev hp hv.aU)
 have hlen:=hps.length
 refine cT.make (v:=.ptr j 0 0) R hj (ps:=partsOf v) (ys:=(Act.eval ⟨⟨t'⟩,d⟩ x).cells.toList) (el:=el) (by rw [List.take_of_length_le (by omega)];exact hps) (by omega) (v':=.pointer (some ⟨w.heap.size,0,none⟩)) ?_ ⟨_,eB,rfl⟩ rfl rfl rfl
 simp [Instr.box,newVar,newRow,newObj,Sem.run]
theorem xZ {ty:TypeId} {len:Nat} {ps:Array (Nat×Operand)} {vs:List SV} (hl:TR e t t') (R:Rel B e h w) (hvs:uv t (ps.toList.map (·.2))=some vs) (g:(jW P ty len ((ps.toList.map (·.1)).zip vs)).map (fun q=>(⟨.sl j 0 0 q.2.1 len len true true,h,[.b q.1],none,q.2.2⟩:jX))=some r) (hp:r.p=true) (hj:ld h j r.new.length):
  Vt P B e w j r (Instr.buildSlice ty len (ps.map fun (i,x)=>(i,Act.eval ⟨⟨t'⟩,d⟩ x))):=by
 obtain ⟨⟨ps',z,q⟩,hb,rfl⟩:=Option.map_eq_some_iff.1 g
 simp only at hp;subst hp
 obtain ⟨el,ys,hr,qp,hlen,hz⟩:=qY (w:=w) hb (nU (d:=d) hl ps.toList vs hvs)
 have mS:=qp.length
 rw [map_toArray]
 exact cT.make R hj (ps:=ps') (ys:=ys) (el:=el) (by rw [List.take_of_length_le (by omega)];exact qp) (by omega) hr (VR.B8 (Nat.le_of_eq hlen.symm) (Nat.le_refl _)) rfl rfl rfl
theorem z8 {ty:TypeId} {l c:Operand} {a b:SV} {wh:Bool} (hl:TR e t t') (R:Rel B e h w) (ha:ev t l=some a) (hb:ev t c=some b) (g:(lT P ty a b).map (fun q=>(⟨.sl j 0 0 q.2.1 q.2.2.1 q.2.2.2.1 true wh,h,[.b q.1],none,q.2.2.2.2⟩:jX))=some r) (hp:r.p=true) (hj:ld h j r.new.length):
  Vt P B e w j r (Instr.makeSlice ty (Act.eval ⟨⟨t'⟩,d⟩ l) (Act.eval ⟨⟨t'⟩,d⟩ c)):=by
 obtain ⟨⟨ps',z,n,m,q⟩,hm,rfl⟩:=Option.map_eq_some_iff.1 g
 simp only at hp;subst hp
 obtain ⟨el,ys,hr,qp,hlen,hz,hnm⟩:=sX (w:=w) hm (aN (d:=d) hl ha) (aN (d:=d) hl hb)
 have mS:=qp.length
 exact cT.make R hj (ps:=ps') (ys:=ys) (el:=el) (by rw [List.take_of_length_le (by omega)];exact qp) (by omega) hr (VR.B8 (Nat.le_of_eq hlen.symm) hnm) rfl rfl rfl
theorem B9 {x:Operand} (hl:TR e t t') (R:Rel B e h w) (g:(match ev t x with
  |some (.ptr b o i)=>some (.of h (.ptr b o i,true))
  |some (.qQ k xs i)=>some (.of h (.qQ k xs i,true))
  |some (.o5 f z l g e o i)=>some (.of h (.o5 f z l g e o i,true))
  |some (.fn (.func f) a b)=>some (.of h (.fn (.func f) a b,true))
  |_=>none)=some r):cT B e j r ((match Act.eval ⟨⟨t'⟩,d⟩ x with
  | .pointer none| .nilIface| .nilFunc=>runtimePanic .nilDeref
  | .func (.method name) first captured=>
   match (first[0]? :Option Value) with
   |some .nilIface=>runtimePanic .nilDeref
   |some (.iface t w)=>do
    if (←nilAhead ((←program).types.size+Made.depth) t w name) != some false then
     unsupported (.noEntry "op/nilCheck.the method's receiver behind this interface value is a nil pointer, or cannot be seen to be none, and the arguments act or may panic (ledger 612)")
    pure (.value (.func (.method name) first captured))
   |_=>pure (.value (.func (.method name) first captured))
  |x=>pure (.value x):Sem Next).run P w):=by
 split at g
 ·rename_i hx
  cases g
  obtain ⟨p,hp,q⟩:=aN (d:=d) hl hx
  rw [q]
  exact cT.tV R ⟨p,hp,rfl⟩
 ·rename_i hx
  cases g
  obtain ⟨n,o',c,tt,fr,q,h1,h2⟩:=aN (d:=d) hl hx
  rw [q]
  exact cT.tV R ⟨n,o',c,tt,fr,rfl,h1,h2⟩
 ·rename_i hx
  cases g
  obtain ⟨n,o',c,tt,fr,q,h1,h2,h3⟩:=aN (d:=d) hl hx
  rw [q]
  exact cT.tV R ⟨n,o',c,tt,fr,rfl,h1,h2,h3⟩
 ·rename_i hx
  cases g
  obtain ⟨ys,us,h1,h2,q⟩:=aN (d:=d) hl hx
  rw [q]
  exact cT.tV R ⟨ys,us,h1,h2,rfl⟩
 ·cases g
theorem MA {op:BinOp} {T:TypeId} {x y:Operand} (hl:TR e t t') (R:Rel B e h w) (g:(match ev t x,ev t y with
  |some (.int k a),some (.int k' b)=>(BT op k a k' b).map (.of h)
  |some a,some b=>(A8 P op T x y a b).map (.of h)
  |_,_=>none)=some r) (hp:r.p=true):Vt P B e w j r (do eqGuard op T x y (Act.eval ⟨⟨t'⟩,d⟩ x) (Act.eval ⟨⟨t'⟩,d⟩ y);binOp op T (Act.eval ⟨⟨t'⟩,d⟩ x) (Act.eval ⟨⟨t'⟩,d⟩ y)):=by
 split at g
 ·rename_i k1 a k2 b hx hy
  obtain ⟨⟨v,q⟩,hb,rfl⟩:=Option.map_eq_some_iff.1 g
  simp only [jX.of] at hp;subst hp
  have h1:Act.eval ⟨⟨t'⟩,d⟩ x= .int k1 a:=aN (d:=d) hl hx
  have h2:Act.eval ⟨⟨t'⟩,d⟩ y= .int k2 b:=aN (d:=d) hl hy
  obtain ⟨v',hr,hv⟩:=Er (P:=P) (e:=e) hb T x y w
  rw [h1,h2]
  exact cT.value R hr hv
 ·rename_i a b hne hx hy
  obtain ⟨⟨v,q⟩,hb,rfl⟩:=Option.map_eq_some_iff.1 g
  simp only [jX.of] at hp;subst hp
  obtain ⟨v',hr,hv⟩:=IN (P:=P) (w:=w) hb (aN (d:=d) hl hx) (aN (d:=d) hl hy)
  exact cT.value R hr hv
 ·cases g
theorem Rel.fix (R:Rel B e h w) {b:Nat} {q:Pl} {w':World} {c:Array Value} {t:TypeId} {fr:Nat×Nat} (hB:B.e.r b=none) (hq:e.r b=some q)
  (hno:eV b (h.set b .gap)=true) (hos:w'.os=w.os) (Mt:w'.tape=w.tape) (hout:w'.output=w.output) (hsize:w.heap.size≤w'.heap.size)
  (hsame:∀n,n<w.heap.size→n≠q.n→w'.heap[n]? =w.heap[n]?) (hcell:w'.heap[q.n]? =some (.cells c t fr)):
  Rel B {e with r:=fun j=>if j=b then none else e.r j,z:=fun m=>if m=q.n then some (c,t,fr) else e.z m} (h.set b .gap) w':=by
 have hlt:=R.dom b q hq
 have hpz:e.z q.n=none:=R.sep b q hq
 have hnew:B.w.heap.size≤q.n:=by
  rcases R.news b q hq with g|g
  ·rw [hB] at g;cases g
  ·exact g
 have hnu:∀(i:Nat) (qs:List SV),(h.set b .gap)[i]? =some (.b qs)→c6 b qs=false:=fun i qs hi=>by
  have:=(List.all_eq_true.1 hno) (.b qs) (List.mem_of_getElem? hi)
  simpa using this
 have hnv:∀{i:Nat} (L:Lp),(h.set b .gap)[i]? =some (.g (some L))→∀v,some v∈L.t→uses b v=false:=fun {i} L hi v hv=>by
  have:=(List.all_eq_true.1 hno) (.g (some L)) (List.mem_of_getElem? hi)
  have:=(List.all_eq_true.1 this) (some v) hv
  simpa [v8] using this
 generalize he':({e with r:=fun j=>if j=b then none else e.r j,z:=fun m=>if m=q.n then some (c,t,fr) else e.z m}:Env)=e'
 have kr:∀j,e'.r j=if j=b then none else e.r j:=fun j=>by rw [←he']
 have kz:∀m,e'.z m=if m=q.n then some (c,t,fr) else e.z m:=fun m=>by rw [←he']
 have kn:e'.n0=e.n0:=by rw [←he']
 have km:e'.m=e.m:=by rw [←he']
 have ky:e'.y=e.y:=by rw [←he']
 have hr:∀j p,j≠b→e.r j=some p→e'.r j=some p:=fun j p hj hp=>by rw [kr,if_neg hj];exact hp
 have hr':∀j p,e'.r j=some p→j≠b∧e.r j=some p:=fun j p hp=>by
  rw [kr] at hp
  split at hp
  ·cases hp
  ·rename_i hj;exact ⟨hj,hp⟩
 have hz:∀n o,e.z n=some o→e'.z n=some o:=fun n o hn=>by
  rw [kz,if_neg (fun x=>by rw [x,hpz] at hn;cases hn)];exact hn
 have Mx:∀j p,B.e.r j=some p→j≠b:=fun j p hp x=>by rw [x,hB] at hp;cases hp
 have hne:∀(i:Nat) (p:Pl),i≠b→e.r i=some p→p.n≠q.n:=fun i p hi hp x=>hi (R.inj i b p q hp hq x)
 exact {
  os:=hos.trans R.os,tape:=Mt.trans R.tape,output:=hout.trans R.output
  size:=Nat.le_trans R.size hsize
  inj:=fun i j p p' hi hj=>R.inj i j p p' (hr' i p hi).2 (hr' j p' hj).2
  dom:=fun i p hi=>by simpa using R.dom i p (hr' i p hi).2
  sep:=fun i p hi=>by
   obtain ⟨h1,h2⟩:=hr' i p hi
   rw [kz,if_neg (hne i p h1 h2)];exact R.sep i p h2
  g6:=fun n cc tt ff hn=>by
   rw [kz] at hn
   split at hn
   ·rename_i x;cases hn;rw [x];exact hcell
   ·rename_i x;rw [hsame n (R.P1 hn) x];exact R.g6 n cc tt ff hn
  bz:=fun n x hn=>by
   rw [kz] at hn
   split at hn
   ·rename_i y;right;omega
   ·exact R.bz n x hn
  news:=fun i p hi=>R.news i p (hr' i p hi).2
  bF:=fun i p hi=>hr i p (Mx i p hi) (R.bF i p hi)
  bZ:=fun n x hn=>hz n x (R.bZ n x hn)
  n0:=by rw [kn];exact R.n0
  cW:=R.cW
  gj:=fun i qs hi=>by
   have GG:=hi
   by_cases lW:b=i
   ·subst lW;rw [List.getElem?_set_self hlt] at hi;cases hi
   ·rw [List.getElem?_set_ne lW] at hi
    rcases R.gj i qs hi with ⟨g1,g2⟩|⟨p,o,g1,g2,c',t',rfl,g3,g4,g5⟩
    ·exact .inl ⟨g1,by rw [kr,if_neg (Ne.symm lW)];exact g2⟩
    ·refine .inr ⟨p,_,hr i p (Ne.symm lW) g1,by rw [hsame p.n (R.lt g1) (hne i p (Ne.symm lW) g1)];exact g2,c',t',rfl,g3,g4,?_⟩
     exact PR.mono' (e:=e) (e':=e') hz (by rw [kn];exact Nat.le_refl _) qs _ (fun j p hj hp=>hr j p (fun x=>by subst x;rw [hnu i qs GG] at hj;cases hj) hp) g5
  gap:=fun i g hi=>by
   by_cases lW:b=i
   ·subst lW
    rw [List.getElem?_set_self hlt] at hi
    cases hi
    exact ⟨by rw [kr,if_pos rfl],trivial⟩
   ·have GG:=hi
    rw [List.getElem?_set_ne lW] at hi
    refine ⟨by rw [kr,if_neg (Ne.symm lW)];exact (R.gap i g hi).1,(R.gap i g hi).2.keep (fun n o hn=>?_) (by rw [ky]) fun L hL v v' hm hv=>VR.mono' (e:=e) (e':=e') hz (by rw [kn];exact Nat.le_refl _) v v' (fun j p hj hp=>hr j p (fun x=>by subst x;subst hL;rw [hnv L GG v hm] at hj;cases hj) hp) hv⟩
    rw [hsame n (Array.getElem?_eq_some_iff.1 hn).1 fun x=>by
     subst x
     obtain ⟨c',t',h1,_⟩:=R.fm hq
     rw [h1] at hn;cases hn]
    exact hn
  yi:=by rw [ky];exact R.yi
  yb:=by rw [ky];exact R.yb
  old:=fun n hn hno qt=>by
   rw [hsame n (by have:=R.size;omega) (by omega)]
   exact R.old n hn hno qt
  win:=fun i p hi=>by
   obtain ⟨o,o',ho,ho',P2⟩:=R.win i p hi
   exact ⟨o,o',ho,by rw [hsame p.n (R.lt (R.bF i p hi)) (hne i p (Mx i p hi) (R.bF i p hi))];exact ho',P2⟩
  kr:=R.kr
  iO:=by simpa using R.iO
  iZ:=fun r hr=>by
   rw [km] at hr
   have:=R.iZ r hr
   rw [hsame r (Array.getElem?_eq_some_iff.1 this.1).1 fun x=>by
    subst x
    obtain ⟨c',t',h1,_⟩:=R.fm hq
    have h2:=this.1
    rw [h1] at h2;cases h2]
   exact this
  kf:=by rw [km];exact R.kf}
theorem IZ {k:Nat} {dst:TypeId} {x:Operand} (hk:∀i p,B.e.r i=some p→i<k) (hl:TR e t t') (R:Rel B e h w) (g:Eo P k h dst (ev t x)=some r) (hp:r.p=true):Vt P B e w j r (convert dst dst (Act.eval ⟨⟨t'⟩,d⟩ x)):=by
 unfold Eo at g
 split at g
 case h_2=>cases g
 rename_i b n m hx
 split at g
 case h_2=>cases g
 rename_i el q xs hd hb
 split at g
 case h_2=>cases g
 rename_i hu hc
 cases g
 simp only [Bool.and_eq_true] at hc
 obtain ⟨⟨⟨Mx,hm⟩,Vk⟩,hno⟩:=hc
 have Mx:=Nat.le_of_ble_eq_true Mx
 have hm:=Nat.eq_of_beq_eq_true hm
 have Vk:=Nat.eq_of_beq_eq_true Vk
 subst hm Vk
 simp only [decide_eq_true_eq] at hp
 have hB:B.e.r b=none:=by
  cases hq:B.e.r b with
  |none=>rfl
  |some p=>have:=hk b p hq;omega
 have hv:=aN (d:=d) hl hx
 rcases hv with ⟨h0,_⟩|⟨p,cap',a,q1,q2,q3,q4,q5,q6,q7⟩
 ·cases h0
 have q5:=q5 rfl
 subst q5
 have q3:=q3 (by omega)
 have q7:=q7 (by omega)
 rcases R.gj b _ hb with ⟨g1,_⟩|⟨p',o,g1,g2,c,t0,rfl,g3,g4,g5⟩
 ·simp [aC,xM] at g1
 rw [q1] at g1;cases g1
 have hcell:aP .u8 xs=(c.toList.drop p.base).take xs.length:=by
  obtain ⟨zs,z1,z2⟩:=g5
  rw [PR] at z1;subst z1
  rw [List.append_nil, ←hp,aG rfl] at z2
  rw [z2.symm]
  simp [aC,xM]
 have hn:aC [SV.ints .u8 (n+1) xs]=n+1:=by simp [aC,xM]
 rw [hn] at g4
 let w2:=w.freeze ⟨p.n,c.size,none⟩ 1
 have hfz:w2.heap[p.n]? =some (.cells c t0 (c.size,c.size+1)):=by
  have hlt:p.n<w.heap.size:=(Array.getElem?_eq_some_iff.1 g2).1
  have hvv:w.heap[p.n]= .cells c t0 (0,0):=(Array.getElem?_eq_some_iff.1 g2).2
  simp only [w2,World.freeze]
  rw [if_neg (by omega)]
  simp only []
  rw [Array.getElem?_eq_getElem (by simpa using hlt),Array.getElem_modify]
  simp [hvv]
 have cP:∀n,n<w.heap.size→n≠p.n→w2.heap[n]? =w.heap[n]? :=fun n hn hne=>by
  simp only [w2,World.freeze]
  rw [if_neg (by omega)]
  simp only []
  rw [Array.getElem?_modify,if_neg (Ne.symm hne)]
 have hsize:w2.heap.size=w.heap.size:=by
  simp only [w2,World.freeze]
  rw [if_neg (by omega)]
  simp only [Array.size_modify]
 have ajm:=R.fix (w':=w2) (c:=c) (t:=t0) (fr:=(c.size,c.size+1)) hB q1 hno (by simp only [w2,World.freeze];rw [if_neg (by omega)]) (by simp only [w2,World.freeze];rw [if_neg (by omega)]) (by simp only [w2,World.freeze];rw [if_neg (by omega)]) (by omega) cP hfz
 have hmk:(markStringish ⟨p.n,a,none⟩).run P w= .ok () w2:=by
  unfold markStringish
  simp only [Sem.run_bind]
  have:(shape p.n).run P w= .ok (some (t0,c.size)) w:=by
   show Result.ok (w.shape? p.n) w=_
   simp [World.shape?,g2]
  rw [this]
  rfl
 have hrun:(convert dst dst (.slice (some ⟨p.n,a,none⟩) (n+1) (n+1))).run P w= .ok (.slice (some ⟨p.n,a,none⟩) (n+1) (n+1)) w2:=by
  have he:=kZ hu
  simp only [convert,Sem.run_bind,run_underlying hd,run_underlying he,Result.andThen_ok,beq_self_eq_true,hmk,Sem.run_pure]
 refine ⟨.value (.slice (some ⟨p.n,a,none⟩) (n+1) (n+1)),w2,{e with r:=fun j=>if j=b then none else e.r j,z:=fun m=>if m=p.n then some (c,t0,(c.size,c.size+1)) else e.z m},.slice (some ⟨p.n,a,none⟩) (n+1) (n+1),?_,.inl rfl,?_,by show Rel B _ (b6 (h.set b .gap) j []) w2;rw [bM];exact ajm,⟨fun i p' hi hpi=>?_,fun m o hmo=>?_,Nat.le_refl _,rfl⟩⟩
 ·rw [q2]
  simp only [Sem.run_bind,hrun,Result.andThen_ok,Sem.run_pure]
 ·refine .inr ⟨p.n,a,n+1,c,t0,(c.size,c.size+1),by rw [hp],if_pos rfl,fun _=>?_,?_,by omega,by omega⟩
  ·show e.n0≤p.n
   have:=R.n0;have:=R.cW
   rcases R.news b p q1 with x|x
   ·rw [hB] at x;cases x
   ·omega
  ·rw [q3,hcell];simp
 ·show (if i=b then none else e.r i)=some p'
  rw [if_neg (fun x=>hi (by rw [x]))];exact hpi
 ·show (if m=p.n then _ else e.z m)=some o
  rw [if_neg (fun x=>by rw [x,R.sep b p q1] at hmo;cases hmo)];exact hmo
theorem Ew {src dst:TypeId} {x:Operand} (hl:TR e t t') (R:Rel B e h w) (g:we P h src dst (ev t x)=some r) (hp:r.p=true):Vt P B e w j r (convert src dst (Act.eval ⟨⟨t'⟩,d⟩ x)):=by
 unfold we at g
 split at g
 ·rename_i xs hx
  split at g
  ·rename_i el hd
   split at g
   ·rename_i he hs1
    split at g
    ·rename_i dd hs
     cases g
     obtain ⟨s,hv,rfl⟩:=aN (d:=d) hl hx
     obtain ⟨v',w',e',hr,Mi,R',hst⟩:=wD (P:=P) (s:=s) R (src:=src) (dst:=dst) (by simp [hs]) hd he
     refine ⟨.value v',w',e',v',?_,.inl rfl,Mi,by show Rel B e' (b6 h j []) w';rw [bM];exact R',hst⟩
     rw [hv]
     simp only [Sem.run_bind,hr,Result.andThen_ok,Sem.run_pure]
    ·cases g
   ·cases g
  ·obtain ⟨v,hb,rfl⟩:=Option.map_eq_some_iff.1 g
   obtain ⟨v',hr,hv⟩:=tP (P:=P) (w:=w) hb (aN (d:=d) hl hx)
   exact cT.value R hr hv
 ·rename_i k1 n hx
  obtain ⟨v,hb,rfl⟩:=Option.map_eq_some_iff.1 g
  obtain ⟨v',hr,hv⟩:=tP (P:=P) (w:=w) hb (aN (d:=d) hl hx)
  exact cT.value R hr hv
 ·rename_i hx
  split at g
  ·rename_i el hs hd
   split at g
   ·rename_i he
    cases g
    have hv:Act.eval ⟨⟨t'⟩,d⟩ x= .slice none 0 0:=aN (d:=d) hl hx
    rw [hv]
    exact cT.value R (run_convert_bytes_nil w src el hs (kZ he) 0 0 dst hd) ⟨ByteArray.empty,rfl,rfl⟩
   ·cases g
  ·cases g
 ·rename_i a hns hni hnn hx
  split at g
  ·rename_i el m xs q n hs hd IS hln
   split at g
   ·rename_i he
    cases g
    simp only [jX.of,av,Bool.and_eq_true,decide_eq_true_eq] at hp
    obtain ⟨⟨rfl,hrow,Vl⟩,hu⟩:=hp
    have hr:=wz (P:=P) R hs hd he IS hln hrow (fun s q=>hns s (by rw [q])) Vl hu (aN (d:=d) hl hx)
    have h2:=cT.value (j:=j) R hr (show VR e (.str xs) _ from ⟨_,rfl,(B7 hu).symm⟩)
    have h3:aa (aa true (eg 1 a&&decide (xs.length=m))) (bE xs)=true:=by rw [hrow,hu,decide_eq_true Vl];rfl
    rw [h3];exact h2
   ·cases g
  ·cases g
 ·cases g
theorem Ex {arr:TypeId} {x:Operand} (hl:TR e t t') (R:Rel B e h w) (g:(match P.underlying arr,ev t x with
  |some (.array (n+1) e),some (.sl b o i 1 len _ _ _)=>match isInt P e with
   |some _=>some (jX.of h (.ptr b o i,decide (n+1≤len)))
   |none=>none
  |some (.array (n+1) e),some (.ro _ k xs)=>match isInt P e with
   |some _=>some (.of h (.qQ k xs 0,decide (n+1≤xs.length)))
   |none=>none
  |_,_=>none)=some r) (hp:r.p=true):Vt P B e w j r (Instr.arrayAt arr (Act.eval ⟨⟨t'⟩,d⟩ x)):=by
 split at g
 ·rename_i n el b o i len cap ex wh hu hx
  split at g
  ·cases g
   simp only [jX.of,decide_eq_true_eq] at hp
   rcases aN (d:=d) hl hx with ⟨h0,_⟩|⟨p,cap',a,GF,hv,ha,_,_,hlc,_⟩
   ·omega
   ·have GD:=ha (by omega)
    have hn:¬len<n+1:=by omega
    rw [hv]
    have hr:(Instr.arrayAt arr (.slice (some ⟨p.n,a,none⟩) len cap')).run P w= .ok (.pointer (some ⟨p.n,a,none⟩)) w:=by
     simp [Instr.arrayAt,run_underlying hu,hn]
    have:=cT.value (j:=j) (v:=.ptr b o i) R hr ⟨p,GF,by rw [GD,Nat.mul_one]⟩
    have hd:decide (n+1≤len)=true:=decide_eq_true hp
    rw [hd];exact this
  ·cases g
 ·rename_i n el f k xs hu hx
  split at g
  ·cases g
   simp only [jX.of,decide_eq_true_eq] at hp
   rcases aN (d:=d) hl hx with ⟨h0,_⟩|⟨n',o,cap,c,tt,fr,hv,hz,_,hq,_⟩
   ·subst h0;simp at hp
   ·have hn:¬xs.length<n+1:=by omega
    rw [hv]
    have hr:(Instr.arrayAt arr (.slice (some ⟨n',o,none⟩) xs.length cap)).run P w= .ok (.pointer (some ⟨n',o,none⟩)) w:=by
     simp [Instr.arrayAt,run_underlying hu,hn]
    have:=cT.value (j:=j) (v:=.qQ k xs 0) R hr ⟨n',o,c,tt,fr,rfl,hz,hq⟩
    have hd:decide (n+1≤xs.length)=true:=decide_eq_true hp
    rw [hd];exact this
  ·cases g
 ·cases g
theorem LR.jI (hl:TR e t t') {xs:Array Operand} {vs:List SV} (h:uv t xs.toList=some vs):LR e vs (xs.map (Act.eval ⟨⟨t'⟩,d⟩)).toList:=by
 rw [Array.toList_map];exact sS hl h
theorem jJ {c:Call} {b:Builtin} {o:Oper} {args':Array Value} (gw:c.callee= .builtin b) (ha:args'=c.args.map (Act.eval ⟨⟨t'⟩,d⟩)) (ho:o.op= .call c):
  (execOp (Act.eval ⟨⟨t'⟩,d⟩) o)=builtin b c.argTypes o.type (c.args.map fun| .const _=>true|_=>false) args':=by
 unfold execOp
 rw [ho]
 simp only [resolve,gw]
 rw [ha]
 rfl
theorem I0 {G:bK} {jk:Tmp→Bool} {k:Nat} {o:Oper} (g:nK P G jk k t h j o=some r) (hp:r.p=true) (hc:∀c f,o.op= .call c→c.callee≠.value f) (hj:ld h j r.new.length)
  (hk:∀i p,B.e.r i=some p→i<k) (hl:TR e t t') (R:Rel B e h w):cT B e j r ((execOp (Act.eval ⟨⟨t'⟩,d⟩) o).run P w):=by
 have Yp:(∃c,o.op= .call c)∨∀c,o.op≠.call c:=by cases o.op<;>simp
 rcases Yp with ⟨c,hop⟩|hnc
 ·-- builtins
  unfold nK at g
  rw [hop] at g
  simp only at g
  split at g
  ·rename_i f gw;exact absurd gw (hc c f hop)
  ·rename_i gw
   split at g
   ·rename_i ty a Vv ha
    obtain ⟨v,hb,rfl⟩:=Option.map_eq_some_iff.1 g
    obtain ⟨y,zs,hy,hz,q⟩:=LR.jI (d:=d) hl ha
    rw [LR] at hz;subst hz
    obtain ⟨v',hr,hv⟩:=Et (P:=P) (w:=w) (ty:=o.type) hb hy
    have h1:c.argTypes= #[ty]:=Array.ext' Vv
    have h2: #[y]=c.args.map (Act.eval ⟨⟨t'⟩,d⟩):=by apply Array.ext';exact q.symm
    rw [jJ gw h2 hop,h1]
    exact cT.value R hr hv
   ·cases g
  ·rename_i gw
   split at g
   ·rename_i ty a Vv ha
    obtain ⟨v,hb,rfl⟩:=Option.map_eq_some_iff.1 g
    obtain ⟨y,zs,hy,hz,q⟩:=LR.jI (d:=d) hl ha
    rw [LR] at hz;subst hz
    obtain ⟨v',hr,hv⟩:=Eu (P:=P) (w:=w) (ty:=o.type) hb hy
    have h1:c.argTypes= #[ty]:=Array.ext' Vv
    have h2: #[y]=c.args.map (Act.eval ⟨⟨t'⟩,d⟩):=by apply Array.ext';exact q.symm
    rw [jJ gw h2 hop,h1]
    exact cT.value R hr hv
   ·cases g
  ·rename_i gw
   split at g
   ·rename_i kk a vs ha
    obtain ⟨n,hb,rfl⟩:=Option.map_eq_some_iff.1 g
    obtain ⟨y,zs,hy,hz,q⟩:=LR.jI (d:=d) hl ha
    rw [VR] at hy;subst hy
    have h2:(⟨.int kk a::zs⟩:Array Value)=c.args.map (Act.eval ⟨⟨t'⟩,d⟩):=by apply Array.ext';exact q.symm
    rw [jJ gw h2 hop]
    exact cT.value (s:=Builtin.min_ c.argTypes o.type ⟨.int kk a::zs⟩) R (wu hb hz) rfl
   ·cases g
  ·rename_i gw
   split at g
   ·rename_i ty xt a b Vv ha
    obtain ⟨y,zs,hy,hz,q⟩:=LR.jI (d:=d) hl ha
    obtain ⟨y2,zs2,hy2,Vu,q2⟩:=hz
    rw [LR] at Vu;subst Vu q2
    have h1:c.argTypes= #[ty,xt]:=Array.ext' Vv
    have h2: #[y,y2]=c.args.map (Act.eval ⟨⟨t'⟩,d⟩):=by apply Array.ext';exact q.symm
    rw [jJ gw h2 hop,h1]
    exact xX R g hp hj hk hy hy2
   ·cases g
  ·rename_i gw
   split at g
   ·rename_i ty xt a b Vv ha
    obtain ⟨⟨h',v,pp⟩,hb,rfl⟩:=Option.map_eq_some_iff.1 g
    simp only at hp;subst hp
    obtain ⟨y,zs,hy,hz,q⟩:=LR.jI (d:=d) hl ha
    obtain ⟨y2,zs2,hy2,Vu,q2⟩:=hz
    rw [LR] at Vu;subst Vu q2
    have h1:c.argTypes= #[ty,xt]:=Array.ext' Vv
    have h2: #[y,y2]=c.args.map (Act.eval ⟨⟨t'⟩,d⟩):=by apply Array.ext';exact q.symm
    rw [jJ gw h2 hop,h1]
    obtain ⟨v',w',hr,hv,R'⟩:=B6 (P:=P) (sT:=xt) (ty:=o.type) R hb hy hy2
    refine ⟨.value v',w',e,v',?_,.inl rfl,hv,by rw [bM];exact R',b9.refl _ _⟩
    show ((do pure (.value (←Builtin.copy_ #[ty,xt] o.type #[y,y2])):Sem Next)).run P w=_
    simp only [Sem.run_bind,hr,Result.andThen_ok,Sem.run_pure]
   ·cases g
  ·cases g
 unfold nK at g
 unfold execOp
 generalize o.op=op at g hnc ⊢
 cases op<;>simp only at g
 case move x=>
  obtain ⟨v,hx,rfl⟩:=Option.map_eq_some_iff.1 g
  exact cT.tV R (aN hl hx)
 case assign x=>
  obtain ⟨v,hx,rfl⟩:=Option.map_eq_some_iff.1 g
  exact cT.tV R (aN hl hx)
 case pick c a b=>
  split at g
  ·rename_i Yq
   obtain ⟨v,hx,rfl⟩:=Option.map_eq_some_iff.1 g
   have hb:Act.eval ⟨⟨t'⟩,d⟩ c= .bool true:=aN (d:=d) hl Yq
   have:=cT.tV (P:=P) (j:=j) R (aN (d:=d) hl hx)
   simpa [hb,asBool] using this
  ·rename_i Yq
   obtain ⟨v,hx,rfl⟩:=Option.map_eq_some_iff.1 g
   have hb:Act.eval ⟨⟨t'⟩,d⟩ c= .bool false:=aN (d:=d) hl Yq
   have:=cT.tV (P:=P) (j:=j) R (aN (d:=d) hl hx)
   simpa [hb,asBool] using this
  ·cases g
 case alloc el=>exact Mz R g hj
 case box el x=>exact Yo hl R g hp hj
 case build ty ps=>
  split at g
  ·rename_i vs hvs
   obtain ⟨⟨v,q⟩,hb,rfl⟩:=Option.map_eq_some_iff.1 g
   simp only [jX.of] at hp;subst hp
   obtain ⟨v',hr,hv⟩:=zX (w:=w) hb (nU (d:=d) hl ps.toList vs hvs)
   exact cT.value (s:=Instr.build ty (ps.map fun (i,x)=>(i,Act.eval ⟨⟨t'⟩,d⟩ x))) R (by rw [map_toArray];exact hr) hv
  ·cases g
 case buildSlice ty len ps=>
  split at g
  ·rename_i vs hvs;exact xZ hl R hvs g hp hj
  ·cases g
 case makeSlice ty l c=>
  split at g
  ·rename_i a b ha hb;exact z8 hl R ha hb g hp hj
  ·cases g
 case load ty x=>
  split at g
  ·rename_i a hx
   obtain ⟨⟨v,q⟩,hb,rfl⟩:=Option.map_eq_some_iff.1 g
   simp only [jX.of] at hp;subst hp
   obtain ⟨ad,v',ha,hr,hv⟩:=tN (P:=P) R hb (aN (d:=d) hl hx)
   exact cT.value (s:=Instr.loadAt ty (Act.eval ⟨⟨t'⟩,d⟩ x)) R (by rw [ha];simp [Instr.loadAt,Instr.sureAddr,hr]) hv
  ·cases g
 case store ty x y=>
  split at g
  ·rename_i a v hx hy
   obtain ⟨⟨h',q⟩,hb,rfl⟩:=Option.map_eq_some_iff.1 g
   simp only at hp;subst hp
   obtain ⟨ad,w',ha,hr,R'⟩:=zT (P:=P) R hb (aN (d:=d) hl hx) (aN (d:=d) hl hy)
   refine ⟨.skip,w',e,undef,?_,.inr ⟨rfl,rfl⟩,VR.empty,by rw [bM];exact R',b9.refl _ _⟩
   show ((do Instr.storeAt ty (Act.eval ⟨⟨t'⟩,d⟩ x) (Act.eval ⟨⟨t'⟩,d⟩ y);pure .skip:Sem Next)).run P w=_
   rw [ha]
   simp [Instr.storeAt,Instr.sureAddr,hr]
  ·cases g
 case nilCheck x=>exact B9 hl R g
 case binOp op T x y T'=>exact MA hl R g hp
 case unOp op T x=>
  split at g
  ·rename_i a hx
   obtain ⟨v,hb,rfl⟩:=Option.map_eq_some_iff.1 g
   obtain ⟨v',hr,hv⟩:=IP (P:=P) (w:=w) hb (aN (d:=d) hl hx)
   exact cT.value R hr hv
  ·cases g
 case convert src dst x=>
  split at g
  ·rename_i RZ
   obtain rfl:=Nat.eq_of_beq_eq_true RZ
   exact IZ hk hl R g hp
  ·exact Ew hl R g hp
 case sliceToArrayPointer arr x=>exact Ex hl R g hp
 case makeInterface ty x=>
  split at g
  ·cases g
  ·rename_i dd v hni hu hx
   split at g
   ·rename_i ho
    cases g
    have hr:(Instr.makeInterface ty (Act.eval ⟨⟨t'⟩,d⟩ x)).run P w= .ok (.iface ty (Act.eval ⟨⟨t'⟩,d⟩ x)) w:=by
     unfold Instr.makeInterface
     rw [Sem.run_bind,run_underlying hu,Result.andThen_ok]
     cases dd<;>first|exact (hni _ rfl).elim|rfl
    exact cT.value R hr ⟨_,aN (d:=d) hl hx,rfl⟩
   ·cases g
  ·cases g
 case makeFunc fn first captured=>
  split at g
  ·rename_i a b ha hb
   cases g
   exact cT.value R (s:=Instr.makeFunc fn (first.map (Act.eval ⟨⟨t'⟩,d⟩)) (captured.map (Act.eval ⟨⟨t'⟩,d⟩))) rfl ⟨_,_,LR.jI (d:=d) hl ha,LR.jI (d:=d) hl hb,rfl⟩
  ·cases g
 case fieldAddr ty x i=>
  split at g
  ·rename_i a hx
   obtain ⟨v,hb,rfl⟩:=Option.map_eq_some_iff.1 g
   obtain ⟨v',hr,hv⟩:=sU (P:=P) (w:=w) hb (aN (d:=d) hl hx)
   exact cT.value R hr hv
  ·cases g
 case field ty x i=>
  split at g
  ·rename_i a hx
   obtain ⟨⟨v,q⟩,hb,rfl⟩:=Option.map_eq_some_iff.1 g
   simp only [jX.of] at hp;subst hp
   obtain ⟨v',hr,hv⟩:=zU (P:=P) (w:=w) hb (aN (d:=d) hl hx)
   exact cT.value R hr hv
  ·cases g
 case indexAddr ty x i=>
  split at g
  ·rename_i a b hx hi
   obtain ⟨⟨v,q⟩,hb,rfl⟩:=Option.map_eq_some_iff.1 g
   simp only [jX.of] at hp;subst hp
   obtain ⟨v',hr,hv⟩:=sV (P:=P) (w:=w) hb (aN (d:=d) hl hx) (aN (d:=d) hl hi)
   exact cT.value R hr hv
  ·cases g
 case index ty x i=>
  split at g
  ·rename_i a b hx hi
   obtain ⟨⟨v,q⟩,hb,rfl⟩:=Option.map_eq_some_iff.1 g
   simp only [jX.of] at hp;subst hp
   obtain ⟨v',hr,hv⟩:=zV (P:=P) (w:=w) hb (aN (d:=d) hl hx) (aN (d:=d) hl hi)
   exact cT.value R hr hv
  ·cases g
 case slice ty x lo hi mx=>
  split at g
  ·rename_i a l u m hx hlo hhi Vn
   split at g
   ·rename_i hz3
    obtain ⟨⟨v,q⟩,hb,rfl⟩:=Option.map_eq_some_iff.1 g
    simp only [jX.of] at hp;subst hp
    obtain ⟨v',hr,hv⟩:=zZ (P:=P) R hz3 hlo hhi Vn hb (aN (d:=d) hl hx) (ju (d:=d) hl hlo) (ju (d:=d) hl hhi) (ju (d:=d) hl Vn)
    exact cT.value R hr hv
   obtain ⟨⟨v,q⟩,hb,rfl⟩:=Option.map_eq_some_iff.1 g
   simp only [jX.of] at hp;subst hp
   obtain ⟨v',hr,hv⟩:=lY (P:=P) R hb (aN (d:=d) hl hx) (ju (d:=d) hl hlo) (ju (d:=d) hl hhi) (ju (d:=d) hl Vn)
   exact cT.value R hr hv
  ·cases g
 case typeAssert x xT asserted ok=>
  split at g
  ·rename_i a hx
   obtain ⟨v,hb,rfl⟩:=Option.map_eq_some_iff.1 g
   obtain ⟨v',hr,hv⟩:=xW (P:=P) (w:=w) (xT:=xT) hb (aN (d:=d) hl hx)
   exact cT.value R hr hv
  ·cases g
 case extract x i=>
  split at g
  ·rename_i vs hx
   obtain ⟨v,hb,rfl⟩:=Option.map_eq_some_iff.1 g
   obtain ⟨ys,hys,q⟩:=aN (d:=d) hl hx
   obtain ⟨y,hy,hv⟩:=hys.get hb
   exact cT.value (s:=Instr.extract (Act.eval ⟨⟨t'⟩,d⟩ x) i) (v':=y) R (by rw [q];simp [Instr.extract,hy]) hv
  ·cases g
 case call c=>exact absurd rfl (hnc c)
 all_goals cases g
end
end Go.Sy
namespace Go.Sy
open Go
section
variable {P:Program}
theorem qa {G:bK} (hG:p8 P G) {jk:Tmp→Bool} {k j n:Nat} {ro:Option Nat} {t:List (Option SV)} {t':List Value} {h:List Blk} {r:jX} {o:Oper} (g:nK P G jk k t h j o=some r) (hp:r.p=true)
  {B:dL} {e:Env} {w:World} {d:List Deferred} (hj:ld h j r.new.length) (hk:∀i p,B.e.r i=some p→i<k) (hl:TR e t t') (R:Rel B e h w) {next:Act→World→Prop} {Q:Exit→Act→World→Prop}
  (hn:∀e' v' w',VR e' r.v v'→Rel B e' (b6 r.h j r.new) w'→b9 e e' r.kill→next (Act.put ⟨⟨t'⟩,d⟩ o.dst v') w'):o.wpIn (wF ro) n P ⟨⟨t'⟩,d⟩ w next Q:=by
 have x5:∀c,o.op≠.defer c:=fun c hc=>by unfold nK at g;rw [hc] at g;cases g
 refine ⟨fun _ _=>trivial,?_⟩
 rw [Oper.semAt_eq _ _ _ x5]
 by_cases hc:∃c f,o.op= .call c∧c.callee= .value f
 ·obtain ⟨c,f,hc,gw⟩:=hc
  unfold nK at g
  rw [hc] at g
  simp only [gw] at g
  split at g
  ·rename_i f' first kG vs hf hvs
   split at g
   case h_2=>cases g
   rename_i hyo
   obtain ⟨⟨v,h',new,q⟩,hg,rfl⟩:=Option.map_eq_some_iff.1 g
   simp only at hp;subst hp
   obtain ⟨ys,us,h1,h2,hfv⟩:=aN (d:=d) hl hf
   have hargs:=(h1.append (sS (d:=d) hl hvs)).append h2
   have hk:=hG f' _ h j v h' new hg B e w _ hargs R hj
   cases f' with
   |func f'=>
    have MB:(execOp (Act.eval ⟨⟨t'⟩,d⟩) o).run P w=(callFunc f' ⟨ys++c.args.toList.map (Act.eval ⟨⟨t'⟩,d⟩)++us⟩).run P w:=by
     unfold execOp
     rw [hc]
     simp only [resolve,gw,hfv,Deferred.ofValue,invoke,Sem.run_bind,Sem.run_pure,Result.andThen_ok]
     congr 2
     apply Array.ext'
     simp
    rw [MB]
    rcases hk with ⟨v',w',hr,e',hv,R',hst⟩|⟨hr,Yr⟩
    ·rw [hr]
     exact hn e' v' w' hv R' hst
    ·rw [hr]
     refine ⟨fun h=>by simp [wF,Fence.wide] at h,p9.2 ?_⟩
     intro cs
     obtain ⟨x,w',fr,⟨v',rfl,e',hv,R',hst⟩,rest⟩:=Yr cs
     exact ⟨.returned v',w',fr,hn e' v' w' hv R' hst,rest⟩
   |yield l=>
    obtain ⟨fn,tmps,qE,body,hy,Ys⟩:=hk
    have Be:us=[]:=by
     simp only [yOK,List.isEmpty_iff] at hyo
     subst hyo;exact h2
    subst Be
    rw [List.append_nil] at hy
    have MB:(execOp (Act.eval ⟨⟨t'⟩,d⟩) o).run P w=(Instr.yield l ⟨ys++c.args.toList.map (Act.eval ⟨⟨t'⟩,d⟩)⟩).run P w:=by
     unfold execOp
     rw [hc]
     simp only [resolve,gw,hfv,Deferred.ofValue,invoke,Sem.run_bind,Sem.run_pure,Result.andThen_ok]
     congr 2
     apply Array.ext'
     simp
    rw [MB,hy,Oper.uponIn_round]
    exact ⟨fun h=>by simp [wF,Fence.wide] at h,RoundIn.mono (Ys ro _) fun x w' ⟨v',q,e',hv,R',hst⟩=>by subst q;exact hn e' v' w' hv R' hst⟩
   |_=>exact hk.elim
  ·cases g
 ·obtain ⟨nx,w',e',v',hr,P5,hv,R',hst⟩:=I0 (d:=d) g hp (fun c f q q'=>hc ⟨c,f,q,q'⟩) hj hk hl R
  rw [hr]
  rcases P5 with rfl|⟨rfl,rfl⟩
  ·exact hn e' v' w' hv R' hst
  ·exact hn e' undef w' hv R' hst
theorem VR.bool' {e:Env} {x:SV} {b:Bool} (h:VR e x (.bool b)):x= .bool b∨x= .nl (.bool b):=by
 cases x with
 |bool c=>rw [VR] at h;cases h;exact .inl rfl
 |nl v=>rw [VR] at h;subst h;exact .inr rfl
 |int=>cases h
 |str=>obtain ⟨_,q,_⟩:=h;cases q
 |ints=>exact h.elim
 |ptr=>obtain ⟨_,_,q⟩:=h;cases q
 |sl=>rcases h with ⟨_,_,_,q⟩|⟨_,_,_,_,q,_⟩<;>cases q
 |ro=>rcases h with ⟨_,_,_,q,_⟩|⟨_,_,_,_,_,_,q,_⟩<;>cases q
 |iN=>rcases h with ⟨_,_,_,q,_⟩|⟨_,_,_,_,_,_,q,_⟩<;>cases q
 |oJ=>rcases h with ⟨_,_,_,q,_⟩|⟨_,_,_,_,_,_,q,_⟩<;>cases q
 |qQ=>obtain ⟨_,_,_,_,_,q,_⟩:=h;cases q
 |uX=>obtain ⟨_,_,_,_,_,q,_⟩:=h;cases q
 |o5=>obtain ⟨_,_,_,_,_,q,_⟩:=h;cases q
 |agg=>obtain ⟨_,_,q⟩:=h;cases q
 |aT=>obtain ⟨_,_,q⟩:=h;cases q
 |iface=>obtain ⟨_,_,q⟩:=h;cases q
 |fn=>obtain ⟨_,_,_,_,q⟩:=h;cases q
theorem j0 {e:Env} {t:List (Option SV)} {t':List Value} (h:TR e t t') {ops:Array Oper} {o:Oper} {b:Bool} (g:jD ops t o=some b):Region.wanted o (yielded ops ⟨t'⟩)=b:=by
 unfold jD at g
 unfold Region.wanted
 split at g
 ·rename_i hg;rw [hg];cases g;rfl
 ·rename_i j want hg
  rw [hg]
  simp only []
  unfold yielded
  have hj:ops[j]? =ops.toList[j]? :=by simp
  rw [hj]
  split at g
  ·rename_i hd;rw [hd];cases g;rfl
  ·rename_i i hd
   rw [hd]
   simp only [Option.bind_some]
   have e2:(⟨t'⟩:Array Value)[i]? =t'[i]? :=by simp
   rw [e2]
   split at g
   ·rename_i hn
    cases g
    have:t'[i]? =none:=by rw [List.getElem?_eq_none_iff] at hn ⊢;rw [←h.1];exact hn
    rw [this]
    rfl
   ·cases g
   ·rename_i x hx
    cases g
    obtain ⟨v',Mi,hv⟩:=h.get hx
    rw [VR] at hv;subst hv
    rw [Mi]
    cases x<;>cases want<;>rfl
   ·cases g
   ·rename_i v hnb qt hx
    cases g
    obtain ⟨v',Mi,hv⟩:=h.get hx
    rw [Mi]
    by_cases hb:∃b,v'= .bool b
    ·obtain ⟨b,rfl⟩:=hb
     rcases hv.bool' with q|q
     ·exact absurd q (hnb b)
     ·exact absurd q (qt _)
    ·have n1:(match some v' with|some (.bool b)=>some b|_=>none:Option Bool)=none:=by
      cases v'<;>first|rfl|exact absurd ⟨_,rfl⟩ hb
     exact (congrArg (fun z:Option Bool=>z==some want) n1).trans rfl
theorem TR.put {e:Env} {t:List (Option SV)} {t':List Value} {d:List Deferred} {o:Option Tmp} {v:SV} {v':Value} (h:TR e t t') (g:VR e v v'):∃t'',Act.put ⟨⟨t'⟩,d⟩ o v'=⟨⟨t''⟩,d⟩∧TR e (cR t o v) t'':=by
 cases o with
 |none=>exact ⟨t',rfl,h⟩
 |some i=>exact ⟨t'.set i v',by simp [Act.put],h.set g i⟩
theorem Ca {sym:Tmp→Option Bool} {d:Option Tmp} {v:SV} (h:(ez sym d v).2=true):(ez sym d v).1=v:=by
 unfold ez at h ⊢
 split
 ·rfl
 ·split
  ·rfl
  ·rename_i b hb
   simp only [hb] at h
   split
   ·cases b<;>simp at h<;>rw [h]
   ·rfl
theorem mc (h:List Blk):∀(new:List Blk) (j:Nat),(bU h j new).length=h.length:=by
 intro new
 induction new generalizing h with
 |nil=>intro j;rfl
 |cons b bs ih=>intro j;rw [bU,ih];simp
theorem fT:∀(new:List Blk) (h:List Blk) (j i:Nat),(bU h j new)[i]? =if j≤i∧i<j+new.length∧i<h.length then new[i-j]? else h[i]?
 | [],h,j,i=>by simp only [bU,List.length_nil,Nat.add_zero];rw [if_neg (by omega)]
 |b::bs,h,j,i=>by
  rw [bU,fT bs (h.set j b) (j+1) i]
  simp only [List.length_set,List.length_cons]
  by_cases h1:j+1≤i∧i<j+1+bs.length∧i<h.length
  ·rw [if_pos h1,if_pos (by omega),show i-j=(i-(j+1))+1 by omega,List.getElem?_cons_succ]
  ·rw [if_neg h1]
   by_cases h2:i=j
   ·subst h2
    by_cases h3:i<h.length
    ·rw [List.getElem?_set_self h3,if_pos (by omega),Nat.sub_self];rfl
    ·rw [if_neg (by omega),List.getElem?_eq_none (by simp;omega),List.getElem?_eq_none (by omega)]
   ·rw [List.getElem?_set_ne (Ne.symm h2),if_neg (by omega)]
theorem MC {G:bK} {sym:Tmp→Option Bool} {jk:Tmp→Bool} {k:Nat} {ops:Array Oper} {o:Oper} {s s':St} (e:BX P G sym jk k ops o s=some s') (h:s'.ob=true):s.ob=true:=by
 unfold BX at e
 split at e
 ·split at e
  ·cases e;simp only [av] at h;exact h.1.1
  ·cases e
 ·cases e;exact h
 ·cases e
theorem oM {G:bK} {sym:Tmp→Option Bool} {jk:Tmp→Bool} {k:Nat} {ops:Array Oper}:∀(is:List Nat) (s s':St),lU P G sym jk k ops is s=some s'→s'.ob=true→s.ob=true
 | [],s,s',e,h=>by simp only [lU,Option.some.injEq] at e;subst e;exact h
 |i::is,s,s',e,h=>by
  simp only [lU] at e
  split at e
  ·exact oM is s s' e h
  ·split at e
   ·rename_i s1 h1;exact MC h1 (oM is s1 s' e h)
   ·cases e
theorem Ey {G:bK} (hG:p8 P G) {sym:Tmp→Option Bool} {jk:Tmp→Bool} {k n:Nat} {ro:Option Nat} {ops:Array Oper} {o:Oper} {i:Nat} (hi:ops[i]? =some o) {s s':St} (g:BX P G sym jk k ops o s=some s') (fL:s'.ob=true)
  {B:dL} {e:Env} {w:World} {t':List Value} {d:List Deferred} {Q:Exit→Act→World→Prop} {K:Act→World→Prop} (hk:∀i p,B.e.r i=some p→i<k) (hl:TR e s.t t') (R:Rel B e s.h w)
  (hK:∀e' w' t'',e'.m=e.m→TR e' s'.t t''→Rel B e' s'.h w'→K ⟨⟨t''⟩,d⟩ w'):wpOpIn (wF ro) n P ops Q i K ⟨⟨t'⟩,d⟩ w:=by
 unfold BX at g
 unfold wpOpIn
 rw [hi]
 simp only []
 split at g
 ·rename_i hw
  rw [if_pos (j0 hl hw)]
  split at g
  ·rename_i r hop
   cases g
   simp only [av] at fL
   refine qa hG hop fL.1.2 (.inl rfl) hk hl R fun e' v' w' hv R' hst=>?_
   rw [Ca fL.2] at hK
   obtain ⟨t'',q,hl'⟩:=TR.put (d:=d) (o:=o.dst) (hst.slots hl) hv
   rw [q]
   exact hK e' w' t'' hst.m hl' R'
  ·cases g
 ·rename_i hw
  cases g
  rw [if_neg (by rw [j0 hl hw];simp)]
  obtain ⟨t'',q,hl'⟩:=TR.put (d:=d) (o:=o.dst) hl (VR.empty (e:=e))
  rw [q]
  exact ⟨fun _ _=>trivial,hK e w t'' rfl hl' R⟩
 ·cases g
end
end Go.Sy
namespace Go.Sy
open Go
def I1 (h h2:List Blk):Prop:=∀(i:Nat) (ps:List SV),h[i]? =some (.b ps)→h2[i]? =some (.b ps)
def lq (pf:FuncId→Nat) (G:bK):Prop:=
 (∀f,pf f=0→∀vs h j v h' new p,G (.func f) vs h j=some (v,h',new,p)→h'=h∧∀h2,G (.func f) vs h2 j=some (v,h2,new,p))∧
 (∀f,pf f=1→∀vs h j v h' new p,G (.func f) vs h j=some (v,h',new,p)→h'=h∧∀h2,I1 h h2→G (.func f) vs h2 j=some (v,h2,new,p))
section
variable {P:Program}
theorem jv {t t':List (Option SV)}:∀{xs:List Operand},(∀x∈xs,ev t x=ev t' x)→uv t xs=uv t' xs
 | [],_=>rfl
 |x::xs,h=>by simp only [uv,h x (by simp),jv (xs:=xs) fun y hy=>h y (by simp [hy])]
theorem sZ {t t':List (Option SV)} {y:Option Operand} (hy:∀z,y=some z→ev t z=ev t' z):JQ t y=JQ t' y:=by
 cases y with
 |none=>rfl
 |some z=>simp only [JQ,hy z rfl]
theorem jw {G:bK} {jk:Tmp→Bool} {k j:Nat} {t t':List (Option SV)} {h:List Blk} (o:Oper) (e:∀x∈o.op.operands,ev t x=ev t' x):nK P G jk k t h j o=nK P G jk k t' h j o:=by
 unfold nK
 generalize o.op=op at e ⊢
 cases op<;>simp only [Op.operands] at e<;>simp only
 case build ty ps=>rw [jv (t:=t) (t':=t') (xs:=ps.toList.map (·.2)) fun x hx=>e x (by simpa using hx)]
 case buildSlice ty len ps=>rw [jv (t:=t) (t':=t') (xs:=ps.toList.map (·.2)) fun x hx=>e x (by simpa using hx)]
 case makeSlice ty l c=>rw [e l (by simp),e c (by simp)]
 case makeFunc fn a b=>rw [jv (t:=t) (t':=t') (xs:=a.toList) fun x hx=>e x (by simp [Array.mem_toList_iff.1 hx]),jv (t:=t) (t':=t') (xs:=b.toList) fun x hx=>e x (by simp [Array.mem_toList_iff.1 hx])]
 case slice ty x lo hi mx=>
  rw [e x (by simp),sZ (y:=lo) (fun z hz=>e z (by subst hz;simp)),sZ (y:=hi) (fun z hz=>e z (by subst hz;simp)),sZ (y:=mx) (fun z hz=>e z (by subst hz;simp))]
 case call c=>
  have h1:=jv (t:=t) (t':=t') (xs:=c.args.toList) fun x hx=>e x (by simp [Call.operands,Array.mem_toList_iff.1 hx])
  have h2:∀f,c.callee= .value f→ev t f=ev t' f:=fun f hf=>e f (by simp [Call.operands,hf])
  rw [h1]
  cases gw:c.callee with
  |value f=>simp only;rw [h2 f gw]
  |invoke r m=>rfl
  |builtin b=>cases b<;>rfl
 case pick c a b=>rw [e c (by simp),e a (by simp),e b (by simp)]
 case store ty a v=>rw [e a (by simp),e v (by simp)]
 case binOp op T x y T'=>rw [e x (by simp),e y (by simp)]
 case indexAddr T x i=>rw [e x (by simp),e i (by simp)]
 case index T x i=>rw [e x (by simp),e i (by simp)]
 all_goals first
  |rfl
  |(rw [e _ (by simp)])
theorem Yt {t:List (Option SV)} {d:Option Tmp} {v:SV} {x:Operand} (h:∀i,d=some i→x≠.tmp i):ev (cR t d v) x=ev t x:=by
 cases d with
 |none=>rfl
 |some i=>
  cases x with
  |tmp j=>
   have:i≠j:=fun q=>h i rfl (by rw [q])
   simp [ev,cR,List.getElem?_set_ne this]
  |_=>rfl
theorem di {ops:Array Oper} {o:Oper} {t:List (Option SV)} {d:Option Tmp} {v:SV} (h:∀i,d=some i→i ∉ o.looksAt ops):jD ops (cR t d v) o=jD ops t o:=by
 unfold jD
 cases hg:o.guard with
 |none=>rfl
 |some g=>
  obtain ⟨j,b⟩:=g
  simp only []
  cases hd:(ops.toList[j]?).bind (·.dst) with
  |none=>rfl
  |some k=>
   simp only []
   cases d with
   |none=>rfl
   |some i=>
    have hj:ops[j]? =ops.toList[j]? :=by simp
    have:i≠k:=fun q=>h i rfl (by simp only [Oper.looksAt,hg,List.mem_append];right;rw [hj,hd,q];simp)
    simp [cR,List.getElem?_set_ne this]
theorem iy {ops:Array Oper} {o:Oper} {t:List (Option SV)} {d:Option Tmp} {v:SV} (hn:∀i,d=some i→i ∉ o.looksAt ops):∀x∈o.op.operands,ev (cR t d v) x=ev t x:=by
 intro x hx
 apply Yt
 intro i hi q
 subst q
 exact hn i hi (by simp only [Oper.looksAt,List.mem_append,List.mem_filterMap];exact .inl ⟨_,Array.mem_toList_iff.2 hx,rfl⟩)
theorem dz {t t':List (Option SV)} {o:Op} (e:∀x∈o.operands,ev t x=ev t' x):gV t o=gV t' o:=by
 cases o<;>simp only [gV,Op.operands] at e ⊢ <;>rw [e _ (by simp)]
theorem fU {t:List (Option SV)} {a b:Option Tmp} (u v:SV) (h:∀d,a=some d→b≠some d):cR (cR t a u) b v=cR (cR t b v) a u:=by
 cases a with
 |none=>rfl
 |some i=>
  cases b with
  |none=>rfl
  |some j=>
   have:i≠j:=fun q=>h i rfl (by rw [q])
   exact List.set_comm _ _ this
theorem nV {Γ:bu} {G:bK} (hG:lq Γ.pf G) {jk:Tmp→Bool} {k j:Nat} {t:List (Option SV)} {h:List Blk} {r:jX} {o:Oper} (hc:cq P Γ.pf o.op=0) (e:nK P G jk k t h j o=some r):
  r.h=h∧r.kill=none∧∀h2,nK P G jk k t h2 j o=some {r with h:=h2}:=by
 have o7:∀{α:Type} {x:Option α} {f:α→SV×Bool},x.map (fun a=>jX.of h (f a))=some r→r.h=h∧r.kill=none∧∀h2,x.map (fun a=>jX.of h2 (f a))=some {r with h:=h2}:=fun {α x f} hx=>by
  obtain ⟨a,ha,rfl⟩:=Option.map_eq_some_iff.1 hx
  exact ⟨rfl,rfl,fun h2=>by rw [ha];rfl⟩
 unfold nK at e ⊢
 generalize o.op=op at e hc ⊢
 cases op<;>simp only [cq] at hc<;>simp only at e ⊢
 case load=>cases hc
 case store=>cases hc
 case slice=>cases hc
 case convert src dst x=>
  cases RZ:Nat.beq src dst
  case true=>rw [RZ] at hc;cases hc
  simp only [RZ] at hc e ⊢
  have IS:Md P src dst=false:=by
   split at hc
   ·cases hc
   ·assumption
  have hno:∀e,P.underlying src=some (.slice e)→P.underlying dst=some .string→False:=fun e h1 h2=>by
   unfold Md at IS
   rw [h1,h2] at IS
   cases IS
  generalize ev t x=z at e
  unfold we at e ⊢
  split at e
  ·split at e
   ·rename_i hd
    split at e
    ·split at e
     ·cases e;exact ⟨rfl,rfl,fun h2=>rfl⟩
     ·cases e
    ·cases e
   ·exact o7 (f:=fun v=>(v,true)) e
  ·exact o7 (f:=fun v=>(v,true)) e
  ·split at e
   ·rename_i h1 h2
    exact (hno _ h1 h2).elim
   ·cases e
  ·split at e
   ·rename_i h1 h2 _ _
    exact (hno _ h1 h2).elim
   ·cases e
  ·cases e
 case call c=>
  cases gw:c.callee with
  |invoke rr m=>rw [gw] at e;cases e
  |value f=>
   rw [gw] at e hc
   simp only at e hc ⊢
   split at e
   ·rename_i f' first kG vs hf hvs
    split at e
    case h_2=>cases e
    obtain ⟨⟨v,h',new,q⟩,hg,rfl⟩:=Option.map_eq_some_iff.1 e
    cases f with
    |func g=>
     simp only [ev,Option.some.injEq,SV.fn.injEq] at hf
     obtain ⟨rfl,rfl,rfl⟩:=hf
     simp only at hc
     have h0:Γ.pf g=0:=by
      split at hc
      ·assumption
      ·cases hc
      ·cases hc
     obtain ⟨h1,h2⟩:=hG.1 g h0 _ _ _ _ _ _ _ hg
     exact ⟨h1,rfl,fun h3=>by rw [h2 h3];rfl⟩
    |_=>simp at hc
   ·cases e
  |builtin b=>
   rw [gw] at e hc
   cases b<;>simp only at e hc ⊢
   case len=>
    split at e
    ·exact o7 (f:=fun v=>(v,true)) e
    ·cases e
   case cap=>
    split at e
    ·exact o7 (f:=fun v=>(v,true)) e
    ·cases e
   case min=>
    split at e
    ·exact o7 (f:=fun n=>(_,true)) e
    ·cases e
   all_goals first|cases e|cases hc
 all_goals first
  |(cases e;done)
  |exact o7 (f:=fun v=>(v,true)) e
  |exact o7 (f:=fun q=>q) e
  |(obtain ⟨a,ha,rfl⟩:=Option.map_eq_some_iff.1 e;exact ⟨rfl,rfl,fun h2=>by rw [ha];rfl⟩)
  |(split at e<;>first
    |(cases e;done)
    |exact o7 (f:=fun v=>(v,true)) e
    |exact o7 (f:=fun q=>q) e
    |(cases e;exact ⟨rfl,rfl,fun h2=>rfl⟩)
    |(obtain ⟨a,ha,rfl⟩:=Option.map_eq_some_iff.1 e;exact ⟨rfl,rfl,fun h2=>by rw [ha];rfl⟩)
    |(split at e<;>first|(cases e;done)|(rename_i hif;cases e;exact ⟨rfl,rfl,fun h2=>by first|rfl|(rw [if_pos hif];rfl)⟩)))
theorem z9 {h h2:List Blk} {a:SV} (hb:∀b,(match some a with|some (.sl b _ _ _ _ _ _ _)=>some b|_=>none)=some b→h2[b]? =h[b]?):dI h2 a=dI h a:=by
 cases a with
 |sl b o i z len cap ex wh=>simp only [dI];rw [hb b rfl]
 |nl v=>
  cases v with
  |slice a l c=>cases l<;>rfl
  |_=>rfl
 |_=>rfl
theorem GI {h h2:List Blk} {src dst:TypeId} {q:Option SV} {r:jX} (hh:∀a,q=some a→dI h2 a=dI h a) (e:we P h src dst q=some r):
  r.h=h∧r.new=[]∧r.kill=none∧we P h2 src dst q=some {r with h:=h2}:=by
 have of1:∀{α:Type} {x:Option α} {f:α→SV×Bool},x.map (fun a=>jX.of h (f a))=some r→r.h=h∧r.new=[]∧r.kill=none∧x.map (fun a=>jX.of h2 (f a))=some {r with h:=h2}:=fun {α x f} hx=>by
  obtain ⟨a,ha,rfl⟩:=Option.map_eq_some_iff.1 hx
  exact ⟨rfl,rfl,rfl,by rw [ha];rfl⟩
 unfold we at e ⊢
 cases q with
 |none=>cases e
 |some a=>
  have ha:=hh a rfl
  split at e
  ·split at e
   ·split at e
    ·split at e
     ·cases e;exact ⟨rfl,rfl,rfl,rfl⟩
     ·cases e
    ·cases e
   ·exact of1 (f:=fun v=>(v,true)) e
  ·exact of1 (f:=fun v=>(v,true)) e
  ·split at e
   ·split at e
    ·cases e;exact ⟨rfl,rfl,rfl,rfl⟩
    ·cases e
   ·cases e
  ·rename_i heq
   cases heq
   rw [ha]
   split at e
   ·split at e
    ·cases e;exact ⟨rfl,rfl,rfl,rfl⟩
    ·cases e
   ·cases e
  ·cases e
theorem gz {pf:FuncId→Nat} {G:bK} {jk:Tmp→Bool} {k j:Nat} {t:List (Option SV)} {h:List Blk} {r:jX} {o:Oper} (hc:cq P pf o.op=1) (e:nK P G jk k t h j o=some r):
  r.h=h∧r.new=[]∧r.kill=none∧∀h2,(∀b,gV t o.op=some b→h2[b]? =h[b]?)→nK P G jk k t h2 j o=some {r with h:=h2}:=by
 have o7:∀{x y:Option (SV×Bool)} {h2:List Blk},x.map (jX.of h)=some r→y=x→r.h=h∧y.map (jX.of h2)=some {r with h:=h2}:=fun {x y h2} hx hy=>by
  obtain ⟨a,ha,rfl⟩:=Option.map_eq_some_iff.1 hx
  exact ⟨rfl,by rw [hy,ha];rfl⟩
 have kn:∀{x:Option (SV×Bool)},x.map (jX.of h)=some r→r.new=[]∧r.kill=none:=fun {x} hx=>by
  obtain ⟨a,_,rfl⟩:=Option.map_eq_some_iff.1 hx
  exact ⟨rfl,rfl⟩
 unfold nK at e ⊢
 generalize o.op=op at e hc ⊢
 cases op<;>simp only [cq] at hc<;>simp only [gV] at e ⊢
 case load ty x=>
  split at e
  ·rename_i a hx
   have hh:∀h2,(∀b,(match some a with|some (.ptr b _ _)=>some b|_=>none)=some b→h2[b]? =h[b]?)→vZ P ty h2 a=vZ P ty h a:=fun h2 hb=>by
    cases a with
    |ptr b o i=>simp only [vZ];rw [hb b rfl]
    |_=>rfl
   refine ⟨(o7 (h2:=h) e rfl).1,(kn e).1,(kn e).2,fun h2 hb=>(o7 e (hh h2 ?_)).2⟩
   rw [hx] at hb;exact hb
  ·cases e
 case slice ty x lo hi mx=>
  split at e
  ·rename_i a l u m hx hlo hhi Vn
   have hh:∀h2,(∀b,(match some a with|some (.ptr b _ _)=>some b|_=>none)=some b→h2[b]? =h[b]?)→nI P ty h2 a l u m=nI P ty h a l u m:=fun h2 hb=>by
    unfold nI
    split
    ·rename_i b o i _
     rw [hb b rfl]
    all_goals rfl
   have hh0:∀h2,(∀b,(match some a with|some (.ptr b _ _)=>some b|_=>none)=some b→h2[b]? =h[b]?)→nJ P ty h2 a l u m=nJ P ty h a l u m:=fun h2 hb=>by
    cases a<;>first|rfl|exact hh h2 hb|(simp only [nJ];split<;>first|rfl|exact hh h2 hb)
   split at e
   ·refine ⟨(o7 (h2:=h) e rfl).1,(kn e).1,(kn e).2,fun h2 hb=>(o7 e (hh0 h2 ?_)).2⟩
    rw [hx] at hb;exact hb
   refine ⟨(o7 (h2:=h) e rfl).1,(kn e).1,(kn e).2,fun h2 hb=>(o7 e (hh h2 ?_)).2⟩
   rw [hx] at hb;exact hb
  ·cases e
 case convert src dst x=>
  cases RZ:Nat.beq src dst
  case true=>rw [RZ] at hc;cases hc
  simp only [RZ] at hc e ⊢
  have c0:=GI (h2:=h) (fun _ _=>rfl) e
  refine ⟨c0.1,c0.2.1,c0.2.2.1,fun h2 hb=>(GI (h2:=h2) (fun a ha=>z9 ?_) e).2.2.2⟩
  rw [ha] at hb;exact hb
 case call c=>
  exfalso
  split at hc
  ·split at hc<;>cases hc
  ·cases hc
  ·cases hc
  ·cases hc
  ·cases hc
 all_goals first|(cases hc;done)|(split at hc<;>first|(cases hc;done)|(split at hc<;>cases hc))
theorem lu {pf:FuncId→Nat} {G:bK} {jk:Tmp→Bool} {k j:Nat} {t:List (Option SV)} {h:List Blk} {r:jX} {o:Oper} (hc:cq P pf o.op=2) (e:nK P G jk k t h j o=some r):
  r.new=[]∧r.kill=none∧∃b ps ps',gV t o.op=some b∧h[b]? =some (.b ps)∧r.h=h.set b (.b ps')∧∀h2,h2[b]? =h[b]? →nK P G jk k t h2 j o=some {r with h:=h2.set b (.b ps')}:=by
 unfold nK at e ⊢
 generalize o.op=op at e hc ⊢
 cases op<;>simp only [cq] at hc<;>simp only [gV] at e ⊢
 case store ty x y=>
  split at e
  ·rename_i a v hx hy
   obtain ⟨⟨h',q⟩,hs,rfl⟩:=Option.map_eq_some_iff.1 e
   refine ⟨rfl,rfl,?_⟩
   rw [hx]
   cases a with
   |ptr b o i=>
    unfold lS at hs
    simp only at hs
    cases hb:h[b]? with
    |none=>rw [hb] at hs;cases hs
    |some bl=>
     cases bl with
     |g _=>rw [hb] at hs;cases hs
     |b ps=>
      rw [hb] at hs
      simp only at hs
      split at hs
      ·rename_i gu
       split at hs
       ·rename_i q' n' hsz
        split at hs
        ·rename_i hcd
         obtain ⟨ps',hp,h3⟩:=Option.map_eq_some_iff.1 hs
         simp only [Prod.mk.injEq] at h3
         obtain ⟨rfl,rfl⟩:=h3
         refine ⟨b,ps,ps',rfl,hb,rfl,fun h2 h2b=>?_⟩
         have:lS P ty h2 (.agg q') (.ptr b o 0)=some (h2.set b (.b ps'),true):=by
          unfold lS
          simp only [h2b,hb,gu,hsz,hcd,if_true,hp,Option.map_some]
         rw [this];rfl
        ·cases hs
       ·cases hs
      ·rename_i gu
       split at hs
       ·rename_i hcd
        obtain ⟨q',hp,h3⟩:=Option.map_eq_some_iff.1 hs
        simp only [Prod.mk.injEq] at h3
        obtain ⟨rfl,rfl⟩:=h3
        refine ⟨b,ps,q'.1,rfl,hb,rfl,fun h2 h2b=>?_⟩
        have:lS P ty h2 v (.ptr b o i)=some (h2.set b (.b q'.1),q'.2):=by
         unfold lS
         simp only [h2b,hb,gu,hcd,if_true,hp,Option.map_some]
        rw [this];rfl
       ·cases hs
      ·cases hs
   |_=>simp [lS] at hs
  ·cases e
 case call c=>
  exfalso
  split at hc
  ·split at hc<;>cases hc
  ·cases hc
  ·cases hc
  ·cases hc
  ·cases hc
 all_goals first|(cases hc;done)|(split at hc<;>first|(cases hc;done)|(split at hc<;>cases hc))
theorem wH {Γ:bu} {G:bK} (hG:lq Γ.pf G) {jk:Tmp→Bool} {k j:Nat} {t:List (Option SV)} {h:List Blk} {r:jX} {o:Oper} (hc:cq P Γ.pf o.op=4) (e:nK P G jk k t h j o=some r):r.h=h∧∀h2,I1 h h2→nK P G jk k t h2 j o=some {r with h:=h2}:=by
 unfold nK at e ⊢
 generalize o.op=op at e hc
 cases op<;>simp only [cq] at hc<;>simp only at e ⊢
 case call c=>
  cases gw:c.callee with
  |invoke rr m=>rw [gw] at e;cases e
  |value f=>
   rw [gw] at e hc
   simp only at e hc ⊢
   split at e
   ·rename_i f' first kG vs hf hvs
    split at e
    case h_2=>cases e
    obtain ⟨⟨v,h',new,q⟩,hg,rfl⟩:=Option.map_eq_some_iff.1 e
    cases f with
    |func g=>
     simp only [ev,Option.some.injEq,SV.fn.injEq] at hf
     obtain ⟨rfl,rfl,rfl⟩:=hf
     simp only at hc
     have h0:Γ.pf g=1:=by
      split at hc
      ·cases hc
      ·assumption
      ·cases hc
     obtain ⟨h1,h2⟩:=hG.2 g h0 _ _ _ _ _ _ _ hg
     exact ⟨h1,fun h3 hle=>by rw [h2 h3 hle];rfl⟩
    |_=>simp at hc
   ·cases e
  |builtin b=>rw [gw] at hc;cases b<;>cases hc
 all_goals first|(cases hc;done)|(split at hc<;>first|(cases hc;done)|(split at hc<;>cases hc))
theorem mN (nb:FuncId→Nat) (ops:List Oper) (i:Nat) (o:Oper) (hi:ops[i]? =some o):makes nb (ops.take (i+1))=makes nb (ops.take i)+pF nb o.op:=by
 have:ops.take (i+1)=ops.take i++[o]:=by rw [List.take_add_one,hi];rfl
 simp [makes,this]
theorem Ez (nb:FuncId→Nat) (ops:List Oper) {i j:Nat} (h:i≤j):makes nb (ops.take i)≤makes nb (ops.take j):=by
 induction j with
 |zero=>obtain rfl:i=0:=by omega
        exact Nat.le_refl _
 |succ j ih=>
  by_cases hij:i=j+1
  ·subst hij;exact Nat.le_refl _
  ·have h1:=ih (by omega)
   cases hq:ops[j]? with
   |none=>
    have:ops.take (j+1)=ops.take j:=by rw [List.take_add_one,hq];simp
    rw [this];exact h1
   |some o=>rw [mN nb ops j o hq];omega
theorem me {nb:FuncId→Nat} {ops:List Oper} {n i j:Nat} {x:Oper} (hi:ops[i]? =some x) (hij:i<j):cz nb ops n i+pF nb x.op≤cz nb ops n j:=by
 unfold cz
 have h1:=mN nb ops i x hi
 have h2:=Ez nb ops (i:=i+1) (j:=j) hij
 omega
theorem GJ {nb:FuncId→Nat} {ops:List Oper} {n i:Nat}:n≤cz nb ops n i:=Nat.le_add_right _ _
theorem wI {nb:FuncId→Nat} {ops:List Oper} {n i:Nat} {m:List Nat} {t:List (Option SV)} {o:Op} (h:jE nb ops n m i t o=true) {b:Nat} (hb:gV t o=some b):
  b<n∨∃j x,j<i∧(m.getD i 0).testBit j=true∧ops[j]? =some x∧cz nb ops n j≤b∧b<cz nb ops n j+pF nb x.op:=by
 unfold jE at h
 rw [hb] at h
 simp only [Bool.or_eq_true,List.any_eq_true,List.mem_range,Bool.and_eq_true] at h
 rcases h with h|⟨j,hj,h1,h2⟩
 ·exact .inl (Nat.le_of_ble_eq_true h)
 ·split at h2
  ·rename_i x hx
   simp only [Bool.and_eq_true] at h2
   exact .inr ⟨j,x,hj,h1,hx,Nat.le_of_ble_eq_true h2.1,Nat.le_of_ble_eq_true h2.2⟩
  ·cases h2
theorem cQ {h:List Blk}:∀{n j:Nat},jF h j n=true↔∀i,i<n→h[j+i]? =some .gap
 |0,j=>by simp [jF]
 |n+1,j=>by
  simp only [jF,Bool.and_eq_true,cQ (n:=n) (j:=j+1)]
  constructor
  ·rintro ⟨h1,h2⟩ i hi
   cases i with
   |zero=>
    rw [Nat.add_zero]
    split at h1
    ·assumption
    ·cases h1
   |succ i=>rw [show j+(i+1)=j+1+i by omega];exact h2 i (by omega)
  ·intro hall
   refine ⟨?_,fun i hi=>?_⟩
   ·have:=hall 0 (by omega);rw [Nat.add_zero] at this;rw [this]
   ·have:=hall (i+1) (by omega);rw [show j+(i+1)=j+1+i by omega] at this;exact this
theorem dj {h new:List Blk} {j i:Nat} (hi:i<j∨j+new.length≤i):(bU h j new)[i]? =h[i]? :=by
 rw [fT,if_neg (by omega)]
theorem EA {h a b:List Blk} {i j:Nat} (hd:i+a.length≤j∨j+b.length≤i):bU (bU h i a) j b=bU (bU h j b) i a:=by
 apply List.ext_getElem?
 intro x
 simp only [fT,mc]
 by_cases h1:j≤x∧x<j+b.length∧x<h.length
 ·rw [if_pos h1,if_neg (by omega),if_pos h1]
 ·rw [if_neg h1,if_neg h1]
theorem oN {h a:List Blk} {i b:Nat} {bl:Blk} (hd:b<i∨i+a.length≤b):bU (h.set b bl) i a=(bU h i a).set b bl:=by
 apply List.ext_getElem?
 intro x
 simp only [fT,List.getElem?_set,List.length_set,mc]
 by_cases h1:b=x
 ·subst h1
  rw [if_neg (by omega)]
  simp
 ·simp only [h1,if_false]
theorem cj {Γ:bu} {G:bK} {k n i:Nat} {ops:List Oper} {m:List Nat} {t:List (Option SV)} {h h':List Blk} {v:SV} {p:Bool} {new:List Blk} {o:Oper}:Gz P Γ G k ops n m i t h o=some (v,h',p,new)↔
  jE Γ.nb ops n m i t o.op=true∧∃r,nK P G (fun _=>true) k t h (cz Γ.nb ops n i) o=some r∧r.kill=none∧r.new.length=pF Γ.nb o.op∧jF h (cz Γ.nb ops n i) (pF Γ.nb o.op)=true∧r.h.length=h.length∧v=r.v∧h'=bU r.h (cz Γ.nb ops n i) r.new∧p=r.p∧new=r.new:=by
 unfold Gz
 constructor
 ·intro g
  split at g
  ·rename_i r ha hr
   split at g
   ·rename_i hc
    simp only [Bool.and_eq_true,decide_eq_true_eq,Option.isNone_iff_eq_none] at hc
    simp only [Option.some.injEq,Prod.mk.injEq] at g
    obtain ⟨rfl,rfl,rfl,rfl⟩:=g
    exact ⟨ha,r,hr,hc.1.1.1,hc.1.1.2,hc.1.2,hc.2,rfl,rfl,rfl,rfl⟩
   ·cases g
  ·cases g
 ·rintro ⟨ha,r,hr,h1,h2,h3,h4,rfl,rfl,rfl,rfl⟩
  rw [ha,hr]
  simp only
  have:(r.kill.isNone&&decide (r.new.length=pF Γ.nb o.op)&&jF h (cz Γ.nb ops n i) (pF Γ.nb o.op)&&decide (r.h.length=h.length))=true:=by
   simp [h1,h2,h3,h4]
  rw [this]
theorem MD {Γ:bu} {G:bK} (hG:lq Γ.pf G) {k n i i':Nat} {ops:List Oper} {m:List Nat} {x y:Oper} {t:List (Option SV)} (hx:ops[i]? =some x) (hlt:i<i') (Yu:(m.getD i' 0).testBit i=false)
  (hc:(Yb (cq P Γ.pf x.op) (pF Γ.nb x.op) (cq P Γ.pf y.op) (pF Γ.nb y.op)||Me (cq P Γ.pf x.op) (gV t x.op) (cq P Γ.pf y.op) (gV t y.op))=true) {h h1 h2:List Blk} {vx vy:SV} {px py:Bool} {wx wy:List Blk}
  (e1:Gz P Γ G k ops n m i t h x=some (vx,h1,px,wx)) (e2:Gz P Γ G k ops n m i' t h1 y=some (vy,h2,py,wy)):
  ∃h',Gz P Γ G k ops n m i' t h y=some (vy,h',py,wy)∧Gz P Γ G k ops n m i t h' x=some (vx,h2,px,wx):=by
 obtain ⟨ax,rx,ox,kx,nx,gx,lx,rfl,rfl,rfl,rfl⟩:=cj.1 e1
 obtain ⟨ay,ry,oy,ky,ny,gy,ly,rfl,rfl,rfl,rfl⟩:=cj.1 e2
 have hap:=me (nb:=Γ.nb) (n:=n) hx hlt
 -- abv and the numbers that are kept
 have aei:∀b,gV t y.op=some b→b<cz Γ.nb ops n i∨cz Γ.nb ops n i+rx.new.length≤b:=fun b hb=>by
  rw [nx]
  rcases wI ay hb with h|⟨j,z,hj,h3,h4,h5,h6⟩
  ·have:=GJ (nb:=Γ.nb) (ops:=ops) (n:=n) (i:=i);omega
  ·rcases Nat.lt_trichotomy j i with q|q|q
   ·have:=me (nb:=Γ.nb) (n:=n) h4 q;omega
   ·subst q;rw [Yu] at h3;cases h3
   ·have:=me (nb:=Γ.nb) (n:=n) hx q;omega
 have aej:∀b,gV t x.op=some b→b<cz Γ.nb ops n i':=fun b hb=>by
  rcases wI ax hb with h|⟨j,z,hj,h3,h4,h5,h6⟩
  ·have:=GJ (nb:=Γ.nb) (ops:=ops) (n:=n) (i:=i');omega
  ·have:=me (nb:=Γ.nb) (n:=n) h4 (show j<i' by omega);omega
 rw [Bool.or_eq_true] at hc
 rcases hc with hc|hc
 case inr=>
  -- abw blocks
  unfold Me at hc
  rw [Bool.and_eq_true] at hc
  obtain ⟨aek,hne⟩:=hc
  simp only [Bool.or_eq_true,Bool.and_eq_true,beq_iff_eq] at aek
  cases hbx:gV t x.op with
  |none=>rw [hbx] at hne;cases hne
  |some bx=>
   cases hby:gV t y.op with
   |none=>rw [hbx,hby] at hne;cases hne
   |some IF=>
    rw [hbx,hby] at hne
    have ME:bx≠IF:=fun q=>by
     subst q
     have:Nat.beq bx bx=true:=Nat.beq_refl bx
     simp only [this] at hne
     cases hne
    -- what each does
    have kx2:∀(c:cq P Γ.pf x.op=2),∃px',rx.new=[]∧(∃ps,h[bx]? =some (.b ps))∧rx.h=h.set bx (.b px')∧∀h2,h2[bx]? =h[bx]? →nK P G (fun _=>true) k t h2 (cz Γ.nb ops n i) x=some {rx with h:=h2.set bx (.b px')}:=fun c=>by
     obtain ⟨q3,_,b,ps,ps',hb,hbp,q1,qx⟩:=lu c ox
     rw [hbx] at hb;cases hb
     exact ⟨ps',q3,⟨ps,hbp⟩,q1,qx⟩
    have ky2:∀{hh:List Blk},nK P G (fun _=>true) k t hh (cz Γ.nb ops n i') y=some ry→∀(c:cq P Γ.pf y.op=2),∃Vw,ry.new=[]∧(∃ps,hh[IF]? =some (.b ps))∧ry.h=hh.set IF (.b Vw)∧∀h2,h2[IF]? =hh[IF]? →nK P G (fun _=>true) k t h2 (cz Γ.nb ops n i') y=some {ry with h:=h2.set IF (.b Vw)}:=fun oy c=>by
     obtain ⟨q3,_,b,ps,ps',hb,hbp,q1,qx⟩:=lu c oy
     rw [hby] at hb;cases hb
     exact ⟨ps',q3,⟨ps,hbp⟩,q1,qx⟩
    have n0:∀{o:Oper},(cq P Γ.pf o.op=1∨cq P Γ.pf o.op=2)→∀{hh:List Blk} {j:Nat} {r:jX},nK P G (fun _=>true) k t hh j o=some r→r.new=[]:=fun {o} c {hh j r} ho=>by
     rcases c with c|c
     ·exact (gz c ho).2.1
     ·exact (lu c ho).1
    have P5:rx.new=[]:=n0 (by omega) ox
    have sq:ry.new=[]:=n0 (by omega) oy
    rw [P5] at oy gy ly nx
    simp only [bU] at oy gy ly
    rw [sq] at ny
    have nx':pF Γ.nb x.op=0:=nx.symm
    have ny':pF Γ.nb y.op=0:=ny.symm
    have MF:∀(hh:List Blk) (j:Nat),jF hh j 0=true:=fun _ _=>rfl
    rcases aek with ⟨c2,c1|c2'⟩|⟨c1,c2⟩
    ·obtain ⟨px',_,_,q1,qx⟩:=kx2 c2
     obtain ⟨q2,_,_,qy⟩:=gz c1 oy
     have o2:=qy h fun b hb=>by rw [hby] at hb;cases hb;rw [q1,List.getElem?_set_ne ME]
     refine ⟨h,cj.2 ⟨ay,{ry with h:=h},o2,ky,by rw [sq,ny'];rfl,by rw [ny'];exact MF _ _,rfl,rfl,by simp only;rw [sq];rfl,rfl,rfl⟩,cj.2 ⟨ax,rx,ox,kx,by rw [P5,nx'];rfl,gx,lx,rfl,?_,rfl,rfl⟩⟩
     rw [q2,sq,P5];rfl
    ·obtain ⟨px',_,⟨psx,hpx⟩,q1,qx⟩:=kx2 c2
     obtain ⟨Vw,_,⟨psy,RX⟩,q2,qy⟩:=ky2 oy c2'
     have o2:=qy h (by rw [q1,List.getElem?_set_ne ME])
     have o1:=qx (h.set IF (.b Vw)) (by rw [List.getElem?_set_ne (Ne.symm ME)])
     refine ⟨h.set IF (.b Vw),cj.2 ⟨ay,_,o2,ky,by simp only;rw [sq,ny'];rfl,by rw [ny'];exact MF _ _,by simp,rfl,by simp only;rw [sq];rfl,rfl,rfl⟩,cj.2 ⟨ax,_,o1,kx,by simp only;rw [P5,nx'];rfl,by rw [nx'];exact MF _ _,by simp,rfl,?_,rfl,rfl⟩⟩
     simp only
     rw [q2,q1,sq,P5]
     exact (List.set_comm _ _ ME)
    ·obtain ⟨q1,_,_,qx⟩:=gz c1 ox
     rw [q1] at oy gy ly
     obtain ⟨Vw,_,⟨psy,RX⟩,q2,qy⟩:=ky2 oy c2
     have o1:=qx (h.set IF (.b Vw)) fun b hb=>by rw [hbx] at hb;cases hb;rw [List.getElem?_set_ne (Ne.symm ME)]
     refine ⟨h.set IF (.b Vw),cj.2 ⟨ay,ry,oy,ky,by rw [sq,ny'];rfl,by rw [ny'];exact MF _ _,ly,rfl,by rw [q2,sq];rfl,rfl,rfl⟩,cj.2 ⟨ax,_,o1,kx,by simp only;rw [P5,nx'];rfl,by rw [nx'];exact MF _ _,rfl,rfl,?_,rfl,rfl⟩⟩
     simp only
     rw [q2,sq,P5];rfl
 unfold Yb at hc
 simp only [Bool.or_eq_true,Bool.and_eq_true,beq_iff_eq] at hc
 by_cases cx:cq P Γ.pf x.op=0
 ·obtain ⟨q1,_,qx⟩:=nV hG cx ox
  rw [q1] at oy gy ly
  have GK:jF h (cz Γ.nb ops n i') (pF Γ.nb y.op)=true:=by
   rw [cQ] at gy ⊢
   intro a ha
   have:=gy a ha
   rwa [dj (by rw [nx];omega)] at this
  have ajo:∀h':List Blk,(∀a,a<cz Γ.nb ops n i'→h'[a]? =h[a]?)→jF h' (cz Γ.nb ops n i) (pF Γ.nb x.op)=true:=fun h' hh=>by
   rw [cQ] at gx ⊢
   intro a ha
   rw [hh _ (by omega)];exact gx a ha
  by_cases cy:cq P Γ.pf y.op=0
  ·obtain ⟨q2,_,qy⟩:=nV hG cy oy
   refine ⟨bU h (cz Γ.nb ops n i') ry.new,cj.2 ⟨ay,{ry with h:=h},qy h,ky,ny,GK,rfl,rfl,rfl,rfl,rfl⟩,cj.2 ⟨ax,_,qx _,kx,nx,ajo _ fun a ha=>dj (.inl ha),rfl,rfl,?_,rfl,rfl⟩⟩
   rw [q2]
   exact EA (.inl (by rw [nx];exact hap))
  ·by_cases cy1:cq P Γ.pf y.op=1
   ·obtain ⟨q2,q3,_,qy⟩:=gz cy1 oy
    have:=qy h fun b hb=>(dj (aei b hb)).symm
    refine ⟨h,cj.2 ⟨ay,{ry with h:=h},this,ky,ny,GK,rfl,rfl,by rw [q3];rfl,rfl,rfl⟩,cj.2 ⟨ax,rx,ox,kx,nx,gx,lx,rfl,?_,rfl,rfl⟩⟩
    rw [q2,q3,q1];rfl
   ·by_cases cy2:cq P Γ.pf y.op=2
    ·obtain ⟨q3,_,b,ps,ps',hb,hbp,q2,qy⟩:=lu cy2 oy
     have ho:=aei b hb
     have:=qy h (dj ho).symm
     refine ⟨h.set b (.b ps'),cj.2 ⟨ay,_,this,ky,ny,GK,by simp,rfl,by simp only;rw [q3];rfl,rfl,rfl⟩,cj.2 ⟨ax,_,qx _,kx,nx,?_,rfl,rfl,?_,rfl,rfl⟩⟩
     ·rw [cQ] at gx ⊢
      intro a ha
      rw [List.getElem?_set_ne (by rw [nx] at ho;omega)];exact gx a ha
     ·rw [q2,q3]
      simp only [bU]
      exact (oN ho).symm
    ·-- x makes nothing
     have hn0:pF Γ.nb x.op=0:=by omega
     have hnew:rx.new=[]:=List.length_eq_zero_iff.1 (by omega)
     rw [hnew] at oy gy ly
     simp only [bU] at oy gy ly
     refine ⟨_,cj.2 ⟨ay,ry,oy,ky,ny,GK,ly,rfl,rfl,rfl,rfl⟩,cj.2 ⟨ax,_,qx _,kx,nx,by rw [hn0];rfl,rfl,rfl,?_,rfl,rfl⟩⟩
     rw [hnew];rfl
 ·by_cases cy:cq P Γ.pf y.op=0
  ·obtain ⟨q2,_,qy⟩:=nV hG cy oy
   by_cases cx1:cq P Γ.pf x.op=1
   ·obtain ⟨q1,q3,_,qx⟩:=gz cx1 ox
    rw [q1,q3] at oy gy ly q2
    simp only [bU] at oy gy ly q2
    refine ⟨_,cj.2 ⟨ay,ry,oy,ky,ny,gy,ly,rfl,rfl,rfl,rfl⟩,?_⟩
    rw [q2]
    have:=qx (bU h (cz Γ.nb ops n i') ry.new) fun b hb=>dj (.inl (aej b hb))
    refine cj.2 ⟨ax,_,this,kx,nx,?_,rfl,rfl,by simp only;rw [q3];rfl,rfl,rfl⟩
    rw [cQ] at gx ⊢
    intro a ha
    rw [dj (.inl (by omega))];exact gx a ha
   ·by_cases cx2:cq P Γ.pf x.op=2
    ·obtain ⟨q3,_,b,ps,ps',hb,hbp,q1,qx⟩:=lu cx2 ox
     rw [q1,q3] at oy gy ly q2
     simp only [bU] at oy gy ly q2
     have ho:=aej b hb
     refine ⟨_,cj.2 ⟨ay,_,qy h,ky,ny,?_,rfl,rfl,rfl,rfl,rfl⟩,?_⟩
     ·rw [cQ] at gy ⊢
      intro a ha
      have:=gy a ha
      rwa [List.getElem?_set_ne (by omega)] at this
     ·have:=qx (bU h (cz Γ.nb ops n i') ry.new) (dj (.inl ho))
      refine cj.2 ⟨ax,_,this,kx,nx,?_,by simp,rfl,?_,rfl,rfl⟩
      ·rw [cQ] at gx ⊢
       intro a ha
       rw [dj (.inl (by omega))];exact gx a ha
      ·simp only;rw [q2,q3]
       simp only [bU]
       exact oN (.inl ho)
    ·by_cases cx4:cq P Γ.pf x.op=4∧pF Γ.nb x.op=0
     ·-- x only reads
      obtain ⟨q1,qx⟩:=wH hG cx4.1 ox
      have IW:rx.new=[]:=List.length_eq_zero_iff.1 (by omega)
      rw [q1,IW] at oy gy ly q2
      simp only [bU] at oy gy ly q2
      have hle:I1 h (bU h (cz Γ.nb ops n i') ry.new):=fun a ps ha=>by
       rw [fT,if_neg]
       ·exact ha
       ·intro hc'
        have:=(cQ.1 gy) (a-cz Γ.nb ops n i') (by rw [←ny];omega)
        rw [show cz Γ.nb ops n i'+(a-cz Γ.nb ops n i')=a by omega,ha] at this
        cases this
      refine ⟨_,cj.2 ⟨ay,ry,oy,ky,ny,gy,ly,rfl,rfl,rfl,rfl⟩,?_⟩
      rw [q2]
      refine cj.2 ⟨ax,_,qx _ hle,kx,nx,by rw [cx4.2];rfl,rfl,rfl,by simp only;rw [IW];rfl,rfl,rfl⟩
     -- y makes nothing
     have hn0:pF Γ.nb y.op=0:=by omega
     have hnew:ry.new=[]:=List.length_eq_zero_iff.1 (by omega)
     refine ⟨h,cj.2 ⟨ay,_,qy h,ky,ny,by rw [hn0];rfl,rfl,rfl,by simp only;rw [hnew];rfl,rfl,rfl⟩,cj.2 ⟨ax,rx,ox,kx,nx,gx,lx,rfl,?_,rfl,rfl⟩⟩
     rw [q2,hnew];rfl
  ·-- two that only read
   obtain ⟨⟨ajp,ajq⟩,P5,sq⟩:((cq P Γ.pf x.op=1∨cq P Γ.pf x.op=4)∧(cq P Γ.pf y.op=1∨cq P Γ.pf y.op=4))∧pF Γ.nb x.op=0∧pF Γ.nb y.op=0:=by
    rcases hc with (hc|hc)|hc
    ·exact absurd hc.1 cx
    ·exact absurd hc.1 cy
    ·exact ⟨⟨hc.1.1.1,hc.1.1.2⟩,hc.1.2,hc.2⟩
   have IW:rx.new=[]:=List.length_eq_zero_iff.1 (by omega)
   have P4:ry.new=[]:=List.length_eq_zero_iff.1 (by omega)
   have q1:rx.h=h:=by
    rcases ajp with c|c
    ·exact (gz c ox).1
    ·exact (wH hG c ox).1
   rw [q1,IW] at oy gy ly
   simp only [bU] at oy gy ly
   have q2:ry.h=h:=by
    rcases ajq with c|c
    ·exact (gz c oy).1
    ·exact (wH hG c oy).1
   refine ⟨h,cj.2 ⟨ay,ry,oy,ky,ny,gy,ly,rfl,by rw [q2,P4];rfl,rfl,rfl⟩,cj.2 ⟨ax,rx,ox,kx,nx,gx,lx,rfl,by rw [q2,P4,q1,IW];rfl,rfl,rfl⟩⟩
end
theorem Cb (acc:List Nat) (j:Nat):∀(es:List Edge) (s:Nat),(es.foldl (fun s e=>if Region.binds .any e then s|||2^e.on|||acc.getD e.on 0 else s) s).testBit j=true→
  s.testBit j=true∨∃e∈es,Region.binds .any e=true∧(j=e.on∨(acc.getD e.on 0).testBit j=true)
 | [],s,h=>.inl h
 |e::es,s,h=>by
  simp only [List.foldl_cons] at h
  rcases Cb acc j es _ h with h1|⟨e',he',hb,h1⟩
  ·split at h1
   ·rename_i hb
    simp only [Nat.testBit_or,Bool.or_eq_true,Nat.testBit_two_pow,decide_eq_true_eq] at h1
    rcases h1 with (h1|h1)|h1
    ·exact .inl h1
    ·exact .inr ⟨e,by simp,hb,.inl h1.symm⟩
    ·exact .inr ⟨e,by simp,hb,.inr h1⟩
   ·exact .inl h1
  ·exact .inr ⟨e',by simp [he'],hb,h1⟩
theorem wJ {l m:List Nat} {i:Nat} (h:i<l.length):(l++m).getD i 0=l.getD i 0:=by
 rw [List.getD_eq_getElem?_getD,List.getElem?_append_left h,List.getD_eq_getElem?_getD]
def EB (ops:List Oper) (m:List Nat):Prop:=
 ∀(i:Nat) (o:Oper),i<m.length→ops[i]? =some o→∀j:Nat,(m.getD i 0).testBit j=true→∃e∈o.after.toList,Region.binds .any e=true∧(j=e.on∨(e.on<i∧(m.getD e.on 0).testBit j=true))
theorem Cd:∀(rest done:List Oper) (acc:List Nat),acc.length=done.length→EB (done++rest) acc→EB (done++rest) (masks rest acc)
 | [],_,acc,_,h=>h
 |o::rest,done,acc,hl,h=>by
  have:done++o::rest=(done++[o])++rest:=by simp
  rw [this]
  apply Cd rest (done++[o]) (acc++[Mg acc o]) (by simp [hl])
  rw [←this]
  intro i x hi hx j hj
  rcases Nat.lt_or_ge i acc.length with h1|h1
  ·rw [wJ h1] at hj
   obtain ⟨e,he,hb,h2⟩:=h i x h1 hx j hj
   refine ⟨e,he,hb,h2.imp id fun h3=>⟨h3.1,?_⟩⟩
   rw [wJ (by omega)];exact h3.2
  ·simp at hi
   have hi':i=acc.length:=by omega
   subst hi'
   rw [hl,List.getElem?_append_right (Nat.le_refl _)] at hx
   simp at hx
   subst hx
   simp only [List.getD_eq_getElem?_getD,List.getElem?_append_right (Nat.le_refl _),Nat.sub_self,List.getElem?_cons_zero,Option.getD_some] at hj
   rcases Cb acc j _ 0 hj with h2|⟨e,he,hb,h2⟩
   ·simp at h2
   ·refine ⟨e,he,hb,h2.imp id fun h3=>?_⟩
    have:e.on<acc.length:=by
     rcases Nat.lt_or_ge e.on acc.length with h4|h4
     ·exact h4
     ·rw [List.getD_eq_getElem?_getD,List.getElem?_eq_none h4] at h3;simp at h3
    exact ⟨this,by rw [wJ this];exact h3⟩
def MG (ops:List Oper) (listed:Array Bool):Prop:=
 ∀(j:Nat) (o:Oper),ops[j]? =some o→listed.getD j false=true→∀e∈o.after.toList,Region.binds .any e=true→listed.getD e.on false=true
theorem Ce {ops:List Oper} {m:List Nat} (hm:EB ops m) (hlen:m.length=ops.length) {listed:Array Bool} (hc:MG ops listed):∀(n i:Nat) (o:Oper),i≤n→ops[i]? =some o→
  (∀e∈o.after.toList,Region.binds .any e=true→listed.getD e.on false=true)→∀j:Nat,(m.getD i 0).testBit j=true→listed.getD j false=true:=by
 intro n
 induction n with
 |zero=>
  intro i o hi ho hp j hj
  obtain ⟨e,he,hb,h1⟩:=hm i o (by rw [hlen];exact (List.getElem?_eq_some_iff.1 ho).1) ho j hj
  rcases h1 with rfl|⟨h1,_⟩
  ·exact hp e he hb
  ·omega
 |succ n ih=>
  intro i o hi ho hp j hj
  obtain ⟨e,he,hb,h1⟩:=hm i o (by rw [hlen];exact (List.getElem?_eq_some_iff.1 ho).1) ho j hj
  rcases h1 with rfl|⟨h1,h2⟩
  ·exact hp e he hb
  ·have hlt:e.on<ops.length:=by have:=(List.getElem?_eq_some_iff.1 ho).1;omega
   have heo:=List.getElem?_eq_getElem hlt
   exact ih e.on _ (by omega) heo (hc e.on _ heo (hp e he hb)) j h2
theorem q9:∀(rest:List Oper) (acc:List Nat),(masks rest acc).length=acc.length+rest.length
 | [],acc=>by simp [masks]
 |o::rest,acc=>by rw [masks,q9 rest];simp;omega
section
variable {P:Program}
theorem nW {G:bK} {k j:Nat} {t:List (Option SV)} {h:List Blk} {r:jX} {o:Oper} (ha:isApp o.op=true) (e:nK P G (fun _=>false) k t h j o=some r) (hn:r.new=[]):
  ∃b ps B,r.kill=some b∧h[b]? =some (.b ps)∧r.h=h.set b (.b B)∧eV b (h.set b (.b B))=true∧
   ∀h2 j2,h2[b]? =h[b]? →(∀c,xU t o.op=some c→h2[c]? =h[c]?)→eV b (h2.set b (.b B))=true→nK P G (fun _=>false) k t h2 j2 o=some {r with h:=h2.set b (.b B)}:=by
 obtain ⟨d,op,ty0,pos,aft,gd⟩:=o
 simp only at ha e ⊢
 unfold isApp at ha
 split at ha
 case h_2=>cases ha
 rename_i c
 split at ha
 case h_2=>cases ha
 rename_i gw
 have hd:(d.map fun _=>false).getD false=false:=by cases d<;>rfl
 unfold nK at e ⊢
 simp only [gw,hd] at e ⊢
 split at e
 case h_2=>cases e
 rename_i ty xt a b Vv hargs
 -- the arguments
 have hsrc:∀cc,(match some b with|some (.sl b _ _ _ _ _ _ _)=>some b|_=>none)=some cc→xU t (.call c)=some cc:=fun cc IS=>by
  cases hl:c.args.toList with
  |nil=>rw [hl] at hargs;cases hargs
  |cons a1 l1=>cases l1 with
   |nil=>
    rw [hl] at hargs
    simp only [uv] at hargs
    split at hargs
    ·rename_i h1 h2;cases h2;cases hargs
    ·cases hargs
   |cons a2 l2=>cases l2 with
    |nil=>
     rw [hl] at hargs
     simp only [uv] at hargs
     split at hargs
     ·rename_i u us h1 h2
      split at h2
      ·rename_i v vs h3 h4
       cases h4;cases h2;cases hargs
       simp only [xU,hl,h3]
       exact IS
      ·cases h2
     ·cases hargs
    |cons a3 l3=>
     exfalso
     have len:∀{xs:List Operand} {vs:List SV},uv t xs=some vs→vs.length=xs.length:=by
      intro xs
      induction xs with
      |nil=>intro vs h;cases h;rfl
      |cons x xs ih=>
       intro vs h
       simp only [uv] at h
       split at h
       ·rename_i h2;cases h;simp [ih h2]
       ·cases h
     have:=len hargs
     rw [hl] at this
     simp at this
 unfold uY at e ⊢
 split at e
 ·unfold zQ at e
  split at e
  ·cases e;cases hn
  ·cases e
 ·cases e
 ·rename_i el dd hni h1 h2
  split at e
  case h_2=>cases e
  rename_i z cy py ny hz JR sq
  split at e
  ·cases e;cases hn
  ·rename_i b0 o0 i0 z' len cap ex wh
   split at e
   ·cases e;cases hn
   ·split at e
    ·rename_i hh;cases hh
    ·split at e
     case h_2=>cases e
     rename_i cx px Ep
     split at e
     case isFalse=>
      split at e
      ·cases e;cases hn
      ·cases e
     rename_i MH
     cases e
     have hb:∃ps,h[b0]? =some (.b ps):=by
      simp only [dI] at Ep
      split at Ep
      ·rename_i ps hps;exact ⟨ps,hps⟩
      ·cases Ep
     obtain ⟨ps,hps⟩:=hb
     simp only [Bool.and_eq_true] at MH
     refine ⟨b0,ps,mM cx cy,rfl,hps,rfl,MH.2,fun h2' j2 q1 q2 q3=>?_⟩
     have e1:dI h2' b=dI h b:=z9 fun cc IS=>q2 cc (hsrc cc IS)
     have e2:dI h2' (.sl b0 o0 i0 z' len cap ex wh)=dI h (.sl b0 o0 i0 z' len cap ex wh):=z9 fun cc IS=>by cases IS;exact q1
     rw [e1,hz,JR,sq]
     simp only [e2,Ep]
     rw [if_pos (by simp only [Bool.and_eq_true];exact ⟨MH.1,q3⟩)]
  ·cases e
 ·cases e
theorem oO {b:Nat} {t:List (Option SV)} {i:Nat} (h:lV b (t[i]?)=true):(eH (some b) t)[i]? =t[i]? :=by
 simp only [eH,List.getElem?_map]
 cases hq:t[i]? with
 |none=>rfl
 |some x=>
  cases x with
  |none=>rfl
  |some v=>
   rw [hq] at h
   simp only [lV,Bool.not_eq_true'] at h
   simp [h]
theorem wL {b:Nat} {t:List (Option SV)} {i:Nat} (h:lV b ((eH (some b) t)[i]?)=true):lV b (t[i]?)=true:=by
 simp only [eH,List.getElem?_map] at h
 cases hq:t[i]? with
 |none=>rw [hq] at h;cases h
 |some x=>
  cases x with
  |none=>rw [hq] at h;cases h
  |some v=>
   rw [hq] at h
   simp only [Option.map_some] at h
   by_cases hu:uses b v=true
   ·rw [if_pos hu] at h;cases h
   ·rw [if_neg hu] at h;exact h
theorem oP {b:Nat} {t:List (Option SV)} {d:Option Tmp} {v:SV} (h:uses b v=false):eH (some b) (cR t d v)=cR (eH (some b) t) d v:=by
 cases d with
 |none=>rfl
 |some i=>simp only [cR,eH,List.map_set,h];rfl
theorem j3 {t:List (Option SV)} {d:Option Tmp} {v:SV} {i:Nat} (h:∀j,d=some j→j≠i):(cR t d v)[i]? =t[i]? :=by
 cases d with
 |none=>rfl
 |some j=>exact List.getElem?_set_ne (h j rfl)
theorem GL {t t':List (Option SV)} {ops:Array Oper} {o:Oper} (h:∀i∈o.looksAt ops,t'[i]? =t[i]?):∀x∈o.op.operands,ev t' x=ev t x:=by
 intro x hx
 cases x with
 |tmp i=>
  have:=h i (by simp only [Oper.looksAt,List.mem_append,List.mem_filterMap];exact .inl ⟨_,Array.mem_toList_iff.2 hx,rfl⟩)
  simp only [ev,this]
 |_=>rfl
theorem gA {ops:Array Oper} {o:Oper} {i:Tmp} (h:i∈jG ops o):i∈o.looksAt ops:=by
 simp only [Oper.looksAt,List.mem_append]
 refine .inr ?_
 unfold jG at h
 cases hg:o.guard with
 |none=>rw [hg] at h;cases h
 |some g=>
  rw [hg] at h
  have:ops[g.1]? =ops.toList[g.1]? :=by simp
  simp only [this]
  exact h
theorem mg {t t':List (Option SV)} {ops:Array Oper} {o:Oper} (h:∀i∈jG ops o,t'[i]? =t[i]?):jD ops t' o=jD ops t o:=by
 unfold jD
 cases hg:o.guard with
 |none=>rfl
 |some g=>
  obtain ⟨j,w⟩:=g
  simp only
  cases hd:(ops.toList[j]?).bind (·.dst) with
  |none=>rfl
  |some i=>
   simp only
   rw [h i (by unfold jG;rw [hg];simp only;rw [hd];simp)]
theorem wM {b:Nat} {h:List Blk}:eV b h=true↔∀(i:Nat) (x:Blk),h[i]? =some x→eV b [x]=true:=by
 unfold eV
 rw [List.all_eq_true]
 constructor
 ·intro g i x hi
  simp only [List.all_cons,List.all_nil,Bool.and_true]
  exact g x (List.mem_of_getElem? hi)
 ·intro g x hx
  obtain ⟨i,hi⟩:=List.getElem?_of_mem hx
  have:=g i x hi
  simpa only [List.all_cons,List.all_nil,Bool.and_true] using this
theorem Cf {b r:Nat} {h new:List Blk} (h1:eV b h=true) (h2:eV b new=true):eV b (bU h r new)=true:=by
 rw [wM] at h1 h2 ⊢
 intro i x hi
 rw [fT] at hi
 split at hi
 ·exact h2 _ x hi
 ·exact h1 _ x hi
theorem x6 {b r:Nat} {h new:List Blk} (h1:eV b (bU h r new)=true) (hg:∀i,i<new.length→h[r+i]? =some .gap):eV b h=true:=by
 rw [wM] at h1 ⊢
 intro i x hi
 by_cases hr:r≤i∧i<r+new.length
 ·have:=hg (i-r) (by omega)
  rw [show r+(i-r)=i by omega,hi] at this
  cases this
  rfl
 ·refine h1 i x ?_
  rw [fT,if_neg (by omega)]
  exact hi
theorem Cg {b r n:Nat}:RR b r n=true↔b<r∨r+n≤b:=by
 unfold RR
 rw [Bool.or_eq_true]
 constructor
 ·rintro (h|h)
  ·exact .inl (Nat.le_of_ble_eq_true h)
  ·exact .inr (Nat.le_of_ble_eq_true h)
 ·rintro (h|h)
  ·exact .inl (Nat.ble_eq_true_of_le h)
  ·exact .inr (Nat.ble_eq_true_of_le h)
theorem Ch {Γ:bu} {G:bK} (hG:lq Γ.pf G) {k n j:Nat} {ops:List Oper} {m:List Nat} {y:Oper} {t:List (Option SV)} {h:List Blk} {v:SV} {h1:List Blk} {p:Bool} {new:List Blk}
  (hc:cq P Γ.pf y.op=0∨cq P Γ.pf y.op=1) (e:Gz P Γ G k ops n m j t h y=some (v,h1,p,new)):
  h1=bU h (cz Γ.nb ops n j) new∧new.length=pF Γ.nb y.op∧∀q,q<new.length→h[cz Γ.nb ops n j+q]? =some .gap:=by
 obtain ⟨ay,ry,oy,ky,ny,gy,ly,rfl,rfl,rfl,rfl⟩:=cj.1 e
 refine ⟨?_,ny,fun q hq=>(cQ.1 gy) q (by omega)⟩
 rcases hc with hc|hc
 ·rw [(nV hG hc oy).1]
 ·rw [(gz hc oy).1]
theorem yF {Γ:bu} {G:bK} (hG:lq Γ.pf G) {k n j:Nat} {ops:List Oper} {m:List Nat} {y:Oper} {t t':List (Option SV)} {h:List Blk} {b:Nat} {X:Blk} {v:SV} {h1:List Blk} {p:Bool} {new:List Blk}
  (he:∀x∈y.op.operands,ev t' x=ev t x) (hc:cq P Γ.pf y.op=0∨cq P Γ.pf y.op=1∧∀d,gV t y.op=some d→d≠b) (ho:b<cz Γ.nb ops n j∨cz Γ.nb ops n j+pF Γ.nb y.op≤b)
  (e:Gz P Γ G k ops n m j t h y=some (v,h1,p,new)):
  Gz P Γ G k ops n m j t' (h.set b X) y=some (v,bU (h.set b X) (cz Γ.nb ops n j) new,p,new):=by
 obtain ⟨ay,ry,oy,ky,ny,gy,ly,rfl,rfl,rfl,rfl⟩:=cj.1 e
 have hco:∀hh jj,nK P G (fun _=>true) k t' hh jj y=nK P G (fun _=>true) k t hh jj y:=fun hh jj=>jw y he
 have ay':jE Γ.nb ops n m j t' y.op=true:=by
  have:jE Γ.nb ops n m j t' y.op=jE Γ.nb ops n m j t y.op:=by unfold jE;rw [dz he]
  rw [this];exact ay
 have EC:jF (h.set b X) (cz Γ.nb ops n j) (pF Γ.nb y.op)=true:=by
  rw [cQ] at gy ⊢
  intro i hi
  rw [List.getElem?_set_ne (by omega)]
  exact gy i hi
 rcases hc with hc|⟨hc,hd⟩
 ·obtain ⟨q1,_,qy⟩:=nV hG hc oy
  exact cj.2 ⟨ay',{ry with h:=h.set b X},by rw [hco];exact qy _,ky,ny,EC,rfl,rfl,rfl,rfl,rfl⟩
 ·obtain ⟨q1,q2,_,qy⟩:=gz hc oy
  exact cj.2 ⟨ay',{ry with h:=h.set b X},by rw [hco];exact qy _ fun d hd'=>List.getElem?_set_ne (Ne.symm (hd d hd')),ky,ny,EC,rfl,rfl,rfl,rfl,rfl⟩
theorem yG {f g:Fp} {cls n r:Nat} (h:yz f cls n r g=true):∃b,f.a=some b∧(cls=0∨cls=1∧∀d,g.a=some d→d≠b)∧(∀x∈g.sl,lV b x=true)∧uses b g.v=false∧eV b g.new=true∧(b<r∨r+n≤b)∧∀c,f.c=some c→c<r∨r+n≤c:=by
 unfold yz at h
 split at h
 case h_2=>cases h
 rename_i b hb
 simp only [Bool.and_eq_true,Bool.or_eq_true,beq_iff_eq,List.all_eq_true,Bool.not_eq_true'] at h
 obtain ⟨⟨⟨⟨⟨h1,h2⟩,h3⟩,h4⟩,h5⟩,h6⟩:=h
 refine ⟨b,hb,?_,h2,h3,h4,Cg.1 h5,fun c hc=>?_⟩
 ·rcases h1 with h1|⟨h1,h7⟩
  ·exact .inl h1
  ·refine .inr ⟨h1,fun d hd=>?_⟩
   rw [hd] at h7
   simp only [Bool.not_eq_true'] at h7
   intro q
   subst q
   rw [Nat.beq_refl] at h7
   cases h7
 ·rw [hc] at h6
  exact Cg.1 h6
theorem cA {Γ:bu} {G:bK} {k n i:Nat} {ops:Array Oper} {m:List Nat} {o:Oper} {s s1:St} {f:Fp}:(dY P Γ G k ops n m i o s=some (s1,f)∧f.q=1)↔
  jD ops s.t o=some true∧BY Γ o=false∧∃v h' p new,Gz P Γ G k ops.toList n m i s.t s.h o=some (v,h',p,new)∧
   s1=⟨cR s.t o.dst (ez Γ.sym o.dst v).1,h',aa (aa s.ob p) (ez Γ.sym o.dst v).2⟩∧f=⟨1,gV s.t o.op,none,(o.looksAt ops).map fun i=>s.t[i]?,(ez Γ.sym o.dst v).1,new⟩:=by
 unfold dY
 constructor
 ·rintro ⟨e,hf⟩
  split at e
  ·rename_i hw
   split at e
   ·split at e
    ·split at e
     ·cases e;cases hf
     ·cases e
    ·cases e
   ·rename_i hg
    split at e
    ·rename_i q hq
     obtain ⟨v,h',p,new⟩:=q
     cases e
     exact ⟨hw,hg,v,h',p,new,hq,rfl,rfl⟩
    ·cases e
  ·cases e;cases hf
  ·cases e
 ·rintro ⟨hw,hg,v,h',p,new,ho,rfl,rfl⟩
  simp only [hw,hg,ho]
  exact ⟨trivial,trivial⟩
theorem cJ {Γ:bu} {G:bK} {k n i:Nat} {ops:Array Oper} {m:List Nat} {o:Oper} {s s1:St} {f:Fp}:(dY P Γ G k ops n m i o s=some (s1,f)∧f.q=0)↔
  jD ops s.t o=some false∧s1=⟨cR s.t o.dst (.aT []),s.h,s.ob⟩∧f=⟨0,none,none,(jG ops o).map fun i=>s.t[i]?,.aT [],[]⟩:=by
 unfold dY
 constructor
 ·rintro ⟨e,hf⟩
  split at e
  ·split at e
   ·split at e
    ·split at e
     ·cases e;cases hf
     ·cases e
    ·cases e
   ·split at e
    ·cases e;cases hf
    ·cases e
  ·rename_i hw;cases e;exact ⟨hw,rfl,rfl⟩
  ·cases e
 ·rintro ⟨hw,rfl,rfl⟩
  simp only [hw]
  exact ⟨trivial,trivial⟩
theorem eY {Γ:bu} {G:bK} {k n i:Nat} {ops:Array Oper} {m:List Nat} {o:Oper} {s s1:St} {f:Fp}:(dY P Γ G k ops n m i o s=some (s1,f)∧f.q=2)↔
  jD ops s.t o=some true∧BY Γ o=true∧∃r,nK P G (fun _=>false) k s.t s.h (cz Γ.nb ops.toList n i) o=some r∧r.new=[]∧
   s1=⟨cR (eH r.kill s.t) o.dst r.v,r.h,aa s.ob r.p⟩∧f=⟨2,r.kill,xU s.t o.op,[],.aT [],[]⟩:=by
 unfold dY
 constructor
 ·rintro ⟨e,hf⟩
  split at e
  ·rename_i hw
   split at e
   ·rename_i hg
    split at e
    ·rename_i r hr
     split at e
     ·rename_i hn
      cases e
      exact ⟨hw,hg,r,hr,hn,rfl,rfl⟩
     ·cases e
    ·cases e
   ·split at e
    ·cases e;cases hf
    ·cases e
  ·cases e;cases hf
  ·cases e
 ·rintro ⟨hw,hg,r,hr,hn,rfl,rfl⟩
  simp only [hw,hg,hr,hn]
  exact ⟨trivial,trivial⟩
theorem lz {Γ:bu} {o:Oper} (h:BY Γ o=true):isApp o.op=true:=by
 unfold BY at h
 split at h
 ·assumption
 ·cases h
theorem mh {t t':List (Option SV)} {o:Op} (e:∀x∈o.operands,ev t x=ev t' x):xU t o=xU t' o:=by
 cases o<;>simp only [xU]
 rename_i c
 split
 ·rename_i y x hl
  rw [e x (by
   have:x∈c.args.toList:=by rw [hl];simp
   simp only [Op.operands,Call.operands]
   simp [Array.mem_toList_iff.1 this])]
 ·rfl
theorem ED {Γ:bu} {G:bK} (hG:lq Γ.pf G) {k n i j:Nat} {ops:Array Oper} {m:List Nat} {x y:Oper} {f g:Fp} {s s1 s2:St} (d1:∀d,x.dst=some d→d ∉ y.looksAt ops) (d2:∀d,x.dst=some d→y.dst≠some d) (d3:∀d,y.dst=some d→d ∉ x.looksAt ops)
  (hc:yz f (cq P Γ.pf y.op) (pF Γ.nb y.op) (cz Γ.nb ops.toList n j) g=true) (e1:dY P Γ G k ops n m i x s=some (s1,f)) (e2:dY P Γ G k ops n m j y s1=some (s2,g)) (hf:f.q=2) (hg:g.q=1):
  ∃s',dY P Γ G k ops n m j y s=some (s',g)∧dY P Γ G k ops n m i x s'=some (s2,f):=by
 obtain ⟨wx,gx,r,hr,hn,rfl,rfl⟩:=eY.1 ⟨e1,hf⟩
 obtain ⟨wy,gy,v,h',p,new,hy,rfl,rfl⟩:=cA.1 ⟨e2,hg⟩
 obtain ⟨b,ps,B,hk,hb,hh,hu,hall⟩:=nW (lz gx) hr hn
 obtain ⟨b',hb',wj,Vs,hv,hnew,hout,hsrc⟩:=yG hc
 simp only [hk,Option.some.injEq] at hb'
 subst hb'
 simp only at wj Vs hv hnew hsrc wy hy e2
 rw [hk] at wy hy Vs wj
 -- the slots that y looks at
 have same:∀q∈y.looksAt ops,lV b (s.t[q]?)=true∧(cR (eH (some b) s.t) x.dst r.v)[q]? =s.t[q]? :=fun q hq=>by
  have h0:=Vs _ (List.mem_map_of_mem hq)
  have hne:∀d,x.dst=some d→d≠q:=fun d hd MI=>d1 d hd (MI▸hq)
  rw [j3 hne] at h0
  have h1:=wL h0
  exact ⟨h1,by rw [j3 hne,oO h1]⟩
 have hev:∀z∈y.op.operands,ev s.t z=ev (cR (eH (some b) s.t) x.dst r.v) z:=fun z hz=>(GL (fun q hq=>(same q hq).2) z hz).symm
 have hw:jD ops s.t y=some true:=by
  rw [←wy]
  exact (mg fun q hq=>(same q (gA hq)).2).symm
 rw [hh] at hy
 obtain ⟨rfl,nl,gp⟩:=Ch hG (wj.imp id fun q=>q.1) hy
 have o1:=yF hG (b:=b) (X:=.b ps) hev wj hout hy
 have wk:(s.h.set b (.b B)).set b (.b ps)=s.h:=by
  rw [List.set_set]
  apply List.ext_getElem?
  intro q
  by_cases hq:b=q
  ·subst hq
   rw [List.getElem?_set_self (List.getElem?_eq_some_iff.1 hb).1,hb]
  ·rw [List.getElem?_set_ne hq]
 rw [wk] at o1
 have EC:∀q,q<new.length→s.h[cz Γ.nb ops.toList n j+q]? =some .gap:=fun q hq=>by
  have:=gp q hq
  rw [List.getElem?_set_ne (by omega)] at this
  exact this
 have Yf:bU (s.h.set b (.b B)) (cz Γ.nb ops.toList n j) new=(bU s.h (cz Γ.nb ops.toList n j) new).set b (.b B):=oN (by omega)
 refine ⟨⟨cR s.t y.dst (ez Γ.sym y.dst v).1,bU s.h (cz Γ.nb ops.toList n j) new,aa (aa s.ob p) (ez Γ.sym y.dst v).2⟩,?_,?_⟩
 ·have q:=(cA (P:=P) (G:=G) (k:=k) (n:=n) (i:=j) (ops:=ops) (m:=m) (o:=y) (s:=s) (Γ:=Γ)).2 ⟨hw,gy,v,_,p,new,o1,rfl,rfl⟩
  rw [q.1]
  congr 2
  simp only [hk]
  refine Fp.mk.injEq .. |>.mpr ⟨rfl,dz hev,rfl,?_,rfl,rfl⟩
  exact List.map_congr_left fun q hq=>(same q hq).2.symm
 ·have hpx:∀z∈x.op.operands,ev (cR s.t y.dst (ez Γ.sym y.dst v).1) z=ev s.t z:=iy d3
  have hs2:eV b ((bU s.h (cz Γ.nb ops.toList n j) new).set b (.b B))=true:=by
   rw [←Yf];exact Cf hu hnew
  have key:=hall (bU s.h (cz Γ.nb ops.toList n j) new) (cz Γ.nb ops.toList n i) (dj (by omega)) (fun c hc=>dj (by have:=hsrc c hc;omega)) hs2
  rw [←jw (t:=cR s.t y.dst (ez Γ.sym y.dst v).1) x hpx] at key
  have q:=(eY (P:=P) (G:=G) (k:=k) (n:=n) (i:=i) (ops:=ops) (m:=m) (o:=x) (s:=⟨cR s.t y.dst (ez Γ.sym y.dst v).1,bU s.h (cz Γ.nb ops.toList n j) new,aa (aa s.ob p) (ez Γ.sym y.dst v).2⟩) (Γ:=Γ)).2 ⟨by rw [di d3];exact wx,gx,_,key,hn,rfl,rfl⟩
  rw [q.1]
  congr 2
  ·simp only [hk]
   refine St.mk.injEq .. |>.mpr ⟨?_,Yf.symm,?_⟩
   ·rw [oP hv,fU _ _ (fun d hd EE=>d2 d EE hd)]
   ·have:∀a c c' d:Bool,aa (aa (aa a c) c') d=aa (aa (aa a d) c) c':=by decide
    exact this _ _ _ _
  ·exact Fp.mk.injEq .. |>.mpr ⟨rfl,rfl,mh hpx,rfl,rfl,rfl⟩
theorem EF {Γ:bu} {G:bK} (hG:lq Γ.pf G) {k n i j:Nat} {ops:Array Oper} {m:List Nat} {x y:Oper} {f g:Fp} {s s1 s2:St} (d1:∀d,x.dst=some d→d ∉ y.looksAt ops) (d2:∀d,x.dst=some d→y.dst≠some d) (d3:∀d,y.dst=some d→d ∉ x.looksAt ops)
  (hc:yz g (cq P Γ.pf x.op) (pF Γ.nb x.op) (cz Γ.nb ops.toList n i) f=true) (e1:dY P Γ G k ops n m i x s=some (s1,f)) (e2:dY P Γ G k ops n m j y s1=some (s2,g)) (hf:f.q=1) (hg:g.q=2):
  ∃s',dY P Γ G k ops n m j y s=some (s',g)∧dY P Γ G k ops n m i x s'=some (s2,f):=by
 obtain ⟨wx,gx,v,h',p,new,hx,rfl,rfl⟩:=cA.1 ⟨e1,hf⟩
 obtain ⟨wy,gy,r,hr,hn,rfl,rfl⟩:=eY.1 ⟨e2,hg⟩
 simp only at wy hr
 obtain ⟨b,ps,B,hk,hb,hh,hu,hall⟩:=nW (lz gy) hr hn
 obtain ⟨b',hb',wj,Vs,hv,hnew,hout,hsrc⟩:=yG hc
 simp only [hk,Option.some.injEq] at hb'
 subst hb'
 simp only at wj Vs hv hnew hsrc
 have RX:∀z∈y.op.operands,ev (cR s.t x.dst (ez Γ.sym x.dst v).1) z=ev s.t z:=iy d1
 obtain ⟨rfl,nl,gp⟩:=Ch hG (wj.imp id fun q=>q.1) hx
 rw [jw y RX] at hr
 have hsb:xU (cR s.t x.dst (ez Γ.sym x.dst v).1) y.op=xU s.t y.op:=mh RX
 rw [hsb] at hsrc
 have hb0:s.h[b]? =(bU s.h (cz Γ.nb ops.toList n i) new)[b]? :=(dj (by omega)).symm
 have Yf:bU (s.h.set b (.b B)) (cz Γ.nb ops.toList n i) new=(bU s.h (cz Γ.nb ops.toList n i) new).set b (.b B):=oN (by omega)
 have EC:∀q,q<new.length→(s.h.set b (.b B))[cz Γ.nb ops.toList n i+q]? =some .gap:=fun q hq=>by
  rw [List.getElem?_set_ne (by omega)];exact gp q hq
 obtain ⟨b2,ps2,B2,hk2,hb2,hh2,Vm,aep⟩:=nW (lz gy) hr hn
 rw [hk] at hk2
 cases hk2
 have hBB:B2=B:=by
  have h1:=hh.symm.trans hh2
  have h2:(_:List Blk)[b]? =(_:List Blk)[b]? :=congrArg (fun l:List Blk=>l[b]?) h1
  have hlt:=(List.getElem?_eq_some_iff.1 hb).1
  rw [List.getElem?_set_self hlt,List.getElem?_set_self hlt] at h2
  cases h2;rfl
 subst hBB
 have key:=aep s.h (cz Γ.nb ops.toList n j) hb0 (fun c hc=>(dj (by have:=hsrc c hc;omega)).symm) (by
  refine x6 (new:=new) ?_ EC
  rw [Yf];exact Vm)
 -- the slots that x looks at
 have same:∀q∈x.looksAt ops,(cR (eH (some b) s.t) y.dst r.v)[q]? =s.t[q]? :=fun q hq=>by
  have h0:=Vs _ (List.mem_map_of_mem hq)
  rw [j3 (fun d hd MI=>d3 d hd (MI▸hq)),oO h0]
 have hev:∀z∈x.op.operands,ev (cR (eH (some b) s.t) y.dst r.v) z=ev s.t z:=GL same
 have o1:=yF hG (b:=b) (X:=.b B2) hev wj hout hx
 refine ⟨⟨cR (eH (some b) s.t) y.dst r.v,s.h.set b (.b B2),aa s.ob r.p⟩,?_,?_⟩
 ·have q:=(eY (P:=P) (G:=G) (k:=k) (n:=n) (i:=j) (ops:=ops) (m:=m) (o:=y) (s:=s) (Γ:=Γ)).2 ⟨by rw [←di d1];exact wy,gy,_,key,hn,rfl,rfl⟩
  rw [q.1]
  simp only [hk,hsb]
 ·have q:=(cA (P:=P) (G:=G) (k:=k) (n:=n) (i:=i) (ops:=ops) (m:=m) (o:=x) (s:=⟨cR (eH (some b) s.t) y.dst r.v,s.h.set b (.b B2),aa s.ob r.p⟩) (Γ:=Γ)).2
   ⟨by rw [←wx];exact mg fun q hq=>same q (gA hq),gx,v,_,p,new,o1,rfl,rfl⟩
  rw [q.1]
  congr 2
  ·simp only [hk,hh]
   refine St.mk.injEq .. |>.mpr ⟨?_,Yf,?_⟩
   ·rw [oP hv,fU _ _ (fun d hd EE=>d2 d EE hd)]
   ·have:∀a c c' d:Bool,aa (aa (aa a d) c) c'=aa (aa (aa a c) c') d:=by decide
    exact this _ _ _ _
  ·exact Fp.mk.injEq .. |>.mpr ⟨rfl,dz hev,rfl,List.map_congr_left fun q hq=>same q hq,rfl,rfl⟩
theorem EG {Γ:bu} {G:bK} (hG:lq Γ.pf G) {k n i i':Nat} {ops:Array Oper} {m:List Nat} {x y:Oper} {f g:Fp} (hx:ops.toList[i]? =some x) (hlt:i<i') (Yu:(m.getD i' 0).testBit i=false)
  (hap:x.apart ops y=true) (hp:BZ P Γ ops.toList n i x f i' y g=true) {s s1 s2:St} (e1:dY P Γ G k ops n m i x s=some (s1,f)) (e2:dY P Γ G k ops n m i' y s1=some (s2,g)):
  ∃s',dY P Γ G k ops n m i' y s=some (s',g)∧dY P Γ G k ops n m i x s'=some (s2,f):=by
 obtain ⟨h1,h2,h3⟩:(∀d,x.dst=some d→d ∉ y.looksAt ops)∧(∀d,x.dst=some d→y.dst≠some d)∧(∀d,y.dst=some d→d ∉ x.looksAt ops):=by
  unfold Oper.apart at hap
  simp only [Bool.and_eq_true] at hap
  obtain ⟨ha,hb⟩:=hap
  refine ⟨fun d hd=>?_,fun d hd=>?_,fun d hd=>?_⟩
  ·rw [hd] at ha;simp at ha;exact ha.1
  ·rw [hd] at ha;simp at ha;exact ha.2
  ·rw [hd] at hb;simpa using hb
 have R6:∀{j:Nat} {t:List (Option SV)} {h:List Blk} {o:Oper} {dd:Option Tmp} {v:SV},(∀d,dd=some d→d ∉ o.looksAt ops)→Gz P Γ G k ops.toList n m j (cR t dd v) h o=Gz P Γ G k ops.toList n m j t h o:=fun {j t h o dd v} hn=>by
  have he:=iy (t:=t) (v:=v) hn
  unfold Gz
  rw [jw o he]
  have:jE Γ.nb ops.toList n m j (cR t dd v) o.op=jE Γ.nb ops.toList n m j t o.op:=by unfold jE;rw [dz he]
  rw [this]
 have GM:∀{t:List (Option SV)} {o:Oper} {dd:Option Tmp} {v:SV},(∀d,dd=some d→d ∉ o.looksAt ops)→((o.looksAt ops).map fun i=>(cR t dd v)[i]?)=(o.looksAt ops).map fun i=>t[i]? :=fun {t o dd v} hn=>
  List.map_congr_left fun q hq=>j3 fun d hd MI=>hn d hd (MI▸hq)
 have GN:∀{t:List (Option SV)} {o:Oper} {dd:Option Tmp} {v:SV},(∀d,dd=some d→d ∉ o.looksAt ops)→((jG ops o).map fun i=>(cR t dd v)[i]?)=(jG ops o).map fun i=>t[i]? :=fun {t o dd v} hn=>
  List.map_congr_left fun q hq=>j3 fun d hd MI=>hn d hd (MI▸gA hq)
 have hb3:∀a b c b' c':Bool,aa (aa (aa (aa a b) b') c) c'=aa (aa (aa (aa a c) c') b) b':=by decide
 have skip:∀{s s1:St} {j:Nat} {o:Oper},jD ops s.t o=some false→dY P Γ G k ops n m j o s=some (⟨cR s.t o.dst (.aT []),s.h,s.ob⟩,⟨0,none,none,(jG ops o).map fun i=>s.t[i]?,.aT [],[]⟩):=fun {s s1 j o} hw=>(cJ.2 ⟨hw,rfl,rfl⟩).1
 unfold BZ at hp
 split at hp
 ·-- both plain
  rename_i hf hg
  obtain ⟨wx,gx,v,h',p,new,ox,rfl,rfl⟩:=cA.1 ⟨e1,hf⟩
  obtain ⟨wy,gy,v',h'',p',new',oy,rfl,rfl⟩:=cA.1 ⟨e2,hg⟩
  simp only at wy oy hp
  rw [di h1] at wy
  rw [R6 h1] at oy
  rw [dz (iy (t:=s.t) (v:=(ez Γ.sym x.dst v).1) h1)] at hp
  obtain ⟨hh,o1,o2⟩:=MD hG hx hlt Yu hp ox oy
  refine ⟨_,(cA.2 ⟨wy,gy,_,_,_,_,o1,rfl,?_⟩).1,?_⟩
  ·rw [dz (iy (t:=s.t) (v:=(ez Γ.sym x.dst v).1) h1),GM h1]
  ·have q:=(cA (P:=P) (G:=G) (k:=k) (n:=n) (i:=i) (ops:=ops) (m:=m) (o:=x) (s:=⟨cR s.t y.dst (ez Γ.sym y.dst v').1,hh,aa (aa s.ob p') (ez Γ.sym y.dst v').2⟩) (Γ:=Γ)).2
    ⟨by rw [di h3];exact wx,gx,v,h'',p,new,by rw [R6 h3];exact o2,rfl,rfl⟩
   rw [q.1]
   congr 2
   ·refine St.mk.injEq .. |>.mpr ⟨fU _ _ (fun d hd EE=>h2 d EE hd),rfl,(hb3 _ _ _ _ _).symm⟩
   ·exact Fp.mk.injEq .. |>.mpr ⟨rfl,dz (iy h3),rfl,GM h3,rfl,rfl⟩
 ·rename_i hf hg;exact ED hG h1 h2 h3 hp e1 e2 hf hg
 ·rename_i hf hg;exact EF hG h1 h2 h3 hp e1 e2 hf hg
 ·rename_i hf hg
  obtain ⟨wx,rfl,rfl⟩:=cJ.1 ⟨e1,hf⟩
  obtain ⟨wy,rfl,rfl⟩:=cJ.1 ⟨e2,hg⟩
  simp only at wy
  rw [di h1] at wy
  refine ⟨_,(cJ.2 ⟨wy,rfl,?_⟩).1,?_⟩
  ·rw [GN h1]
  ·have q:=(cJ (P:=P) (G:=G) (k:=k) (n:=n) (i:=i) (ops:=ops) (m:=m) (o:=x) (s:=⟨cR s.t y.dst (.aT []),s.h,s.ob⟩) (Γ:=Γ)).2 ⟨by rw [di h3];exact wx,rfl,rfl⟩
   rw [q.1]
   congr 2
   ·refine St.mk.injEq .. |>.mpr ⟨fU _ _ (fun d hd EE=>h2 d EE hd),rfl,rfl⟩
   ·exact Fp.mk.injEq .. |>.mpr ⟨rfl,rfl,rfl,GN h3,rfl,rfl⟩
 ·rename_i hf hg
  obtain ⟨wx,rfl,rfl⟩:=cJ.1 ⟨e1,hf⟩
  obtain ⟨wy,gy,v',h'',p',new',oy,rfl,rfl⟩:=cA.1 ⟨e2,hg⟩
  simp only at wy oy
  rw [di h1] at wy
  rw [R6 h1] at oy
  refine ⟨_,(cA.2 ⟨wy,gy,_,_,_,_,oy,rfl,?_⟩).1,?_⟩
  ·rw [dz (iy (t:=s.t) (v:=.aT []) h1),GM h1]
  ·have q:=(cJ (P:=P) (G:=G) (k:=k) (n:=n) (i:=i) (ops:=ops) (m:=m) (o:=x) (s:=⟨cR s.t y.dst (ez Γ.sym y.dst v').1,h'',aa (aa s.ob p') (ez Γ.sym y.dst v').2⟩) (Γ:=Γ)).2 ⟨by rw [di h3];exact wx,rfl,rfl⟩
   rw [q.1]
   congr 2
   ·refine St.mk.injEq .. |>.mpr ⟨fU _ _ (fun d hd EE=>h2 d EE hd),rfl,rfl⟩
   ·exact Fp.mk.injEq .. |>.mpr ⟨rfl,rfl,rfl,GN h3,rfl,rfl⟩
 ·rename_i hf hg
  obtain ⟨wx,gx,v,h',p,new,ox,rfl,rfl⟩:=cA.1 ⟨e1,hf⟩
  obtain ⟨wy,rfl,rfl⟩:=cJ.1 ⟨e2,hg⟩
  simp only at wy
  rw [di h1] at wy
  refine ⟨_,(cJ.2 ⟨wy,rfl,?_⟩).1,?_⟩
  ·rw [GN h1]
  ·have q:=(cA (P:=P) (G:=G) (k:=k) (n:=n) (i:=i) (ops:=ops) (m:=m) (o:=x) (s:=⟨cR s.t y.dst (.aT []),s.h,s.ob⟩) (Γ:=Γ)).2
    ⟨by rw [di h3];exact wx,gx,v,h',p,new,by rw [R6 h3];exact ox,rfl,rfl⟩
   rw [q.1]
   congr 2
   ·refine St.mk.injEq .. |>.mpr ⟨fU _ _ (fun d hd EE=>h2 d EE hd),rfl,rfl⟩
   ·exact Fp.mk.injEq .. |>.mpr ⟨rfl,dz (iy h3),rfl,GM h3,rfl,rfl⟩
 ·-- an append that amv its slice, and one that amw wanted
  rename_i hf hg
  obtain ⟨wx,gx,r,hr,hn,rfl,rfl⟩:=eY.1 ⟨e1,hf⟩
  obtain ⟨wy,rfl,rfl⟩:=cJ.1 ⟨e2,hg⟩
  simp only at wy hp
  obtain ⟨b,ps,B,hk,hb,hh,hu,hall⟩:=nW (lz gx) hr hn
  rw [hk] at wy hp
  simp only [List.all_eq_true] at hp
  have same:∀q∈jG ops y,(cR (eH (some b) s.t) x.dst r.v)[q]? =s.t[q]? :=fun q hq=>by
   have h0:=hp _ (List.mem_map_of_mem hq)
   have hne:∀d,x.dst=some d→d≠q:=fun d hd MI=>h1 d hd (MI▸gA hq)
   rw [j3 hne] at h0
   rw [j3 hne,oO (wL h0)]
  rw [mg same] at wy
  refine ⟨_,(cJ.2 ⟨wy,rfl,?_⟩).1,?_⟩
  ·simp only [hk]
   refine Fp.mk.injEq .. |>.mpr ⟨rfl,rfl,rfl,List.map_congr_left same,rfl,rfl⟩
  ·have hpx:∀z∈x.op.operands,ev (cR s.t y.dst (.aT [])) z=ev s.t z:=iy h3
   have q:=(eY (P:=P) (G:=G) (k:=k) (n:=n) (i:=i) (ops:=ops) (m:=m) (o:=x) (s:=⟨cR s.t y.dst (.aT []),s.h,s.ob⟩) (Γ:=Γ)).2
    ⟨by rw [di h3];exact wx,gx,r,by rw [jw x hpx];exact hr,hn,rfl,rfl⟩
   rw [q.1]
   congr 2
   ·simp only [hk]
    refine St.mk.injEq .. |>.mpr ⟨?_,rfl,rfl⟩
    rw [oP rfl,fU _ _ (fun d hd EE=>h2 d EE hd)]
   ·exact Fp.mk.injEq .. |>.mpr ⟨rfl,rfl,mh hpx,rfl,rfl,rfl⟩
 ·rename_i hf hg
  obtain ⟨wx,rfl,rfl⟩:=cJ.1 ⟨e1,hf⟩
  obtain ⟨wy,gy,r,hr,hn,rfl,rfl⟩:=eY.1 ⟨e2,hg⟩
  simp only at wy hr hp
  rw [di h1] at wy
  have RX:∀z∈y.op.operands,ev (cR s.t x.dst (.aT [])) z=ev s.t z:=iy h1
  rw [jw y RX] at hr
  obtain ⟨b,ps,B,hk,hb,hh,hu,hall⟩:=nW (lz gy) hr hn
  rw [hk] at hp
  simp only [List.all_eq_true] at hp
  have same:∀q∈jG ops x,(cR (eH (some b) s.t) y.dst r.v)[q]? =s.t[q]? :=fun q hq=>by
   have h0:=hp _ (List.mem_map_of_mem hq)
   rw [j3 (fun d hd MI=>h3 d hd (MI▸gA hq)),oO h0]
  refine ⟨⟨cR (eH r.kill s.t) y.dst r.v,r.h,aa s.ob r.p⟩,?_,?_⟩
  ·have q:=(eY (P:=P) (G:=G) (k:=k) (n:=n) (i:=i') (ops:=ops) (m:=m) (o:=y) (s:=s) (Γ:=Γ)).2 ⟨wy,gy,r,hr,hn,rfl,rfl⟩
   rw [q.1]
   congr 2
   exact Fp.mk.injEq .. |>.mpr ⟨rfl,rfl,(mh RX).symm,rfl,rfl,rfl⟩
  ·have q:=(cJ (P:=P) (G:=G) (k:=k) (n:=n) (i:=i) (ops:=ops) (m:=m) (o:=x) (s:=⟨cR (eH r.kill s.t) y.dst r.v,r.h,aa s.ob r.p⟩) (Γ:=Γ)).2 ⟨by rw [hk,mg same];exact wx,rfl,rfl⟩
   rw [q.1]
   congr 2
   ·simp only [hk]
    refine St.mk.injEq .. |>.mpr ⟨?_,rfl,rfl⟩
    rw [oP rfl,fU _ _ (fun d hd EE=>h2 d EE hd)]
   ·simp only [hk]
    exact Fp.mk.injEq .. |>.mpr ⟨rfl,rfl,rfl,List.map_congr_left same,rfl,rfl⟩
 ·cases hp
theorem Ci {Γ:bu} {G:bK} {k n i:Nat} {ops:Array Oper} {m:List Nat} {o:Oper} {s s':St} {f:Fp} (e:dY P Γ G k ops n m i o s=some (s',f)) (h:s'.ob=true):s.ob=true:=by
 unfold dY at e
 split at e
 ·split at e
  ·split at e
   ·split at e
    ·cases e;simp only [av] at h;exact h.1
    ·cases e
   ·cases e
  ·split at e
   ·cases e;simp only [av] at h;exact h.1.1
   ·cases e
 ·cases e;exact h
 ·cases e
def Aa (P:Program) (Γ:bu) (G:bK) (k:Nat) (ops:Array Oper) (n:Nat) (m:List Nat) (φ:Nat→Fp):List Nat→St→St→Prop
 | [],s,s'=>s=s'
 |i::is,s,s'=>∃o s1,ops.toList[i]? =some o∧dY P Γ G k ops n m i o s=some (s1,φ i)∧Aa P Γ G k ops n m φ is s1 s'
theorem Cj {Γ:bu} {G:bK} {k n:Nat} {ops:Array Oper} {m:List Nat} {φ:Nat→Fp}:∀(is:List Nat) (s s':St) (fs:List Fp),zR P Γ G k ops n m is s=some (s',fs)→fs.length=is.length∧((∀(r i:Nat),is[r]? =some i→fs[r]? =some (φ i))→Aa P Γ G k ops n m φ is s s')
 | [],s,s',fs,e=>by simp only [zR,Option.some.injEq,Prod.mk.injEq] at e;obtain ⟨rfl,rfl⟩:=e;exact ⟨rfl,fun _=>rfl⟩
 |i::is,s,s',fs,e=>by
  simp only [zR] at e
  split at e
  ·cases e
  ·rename_i o ho
   split at e
   ·rename_i s1 f h1
    split at e
    ·rename_i s2 gs h2
     simp only [Option.some.injEq,Prod.mk.injEq] at e
     obtain ⟨rfl,rfl⟩:=e
     obtain ⟨q1,q2⟩:=Cj (φ:=φ) is s1 s2 gs h2
     refine ⟨by simp [q1],fun hφ=>⟨o,s1,ho,?_,q2 fun r j hr=>?_⟩⟩
     ·have:=hφ 0 i rfl
      simp only [List.getElem?_cons_zero,Option.some.injEq] at this
      rw [←this];exact h1
     ·have:=hφ (r+1) j (by simpa using hr)
      simpa using this
    ·cases e
   ·cases e
theorem GO {Γ:bu} {G:bK} {k n:Nat} {ops:Array Oper} {m:List Nat} {φ:Nat→Fp}:∀(is:List Nat) (s s':St),Aa P Γ G k ops n m φ is s s'→s'.ob=true→s.ob=true
 | [],s,s',e,h=>by rw [Aa] at e;subst e;exact h
 |i::is,s,s',⟨_,s1,_,h1,h2⟩,h=>Ci h1 (GO is s1 s' h2 h)
theorem GP {Γ:bu} {G:bK} {k n:Nat} {ops:Array Oper} {m:List Nat}:∀(is:List Nat) (s s':St) (fs:List Fp),zR P Γ G k ops n m is s=some (s',fs)→s'.ob=true→s.ob=true
 | [],s,s',fs,e,h=>by simp only [zR,Option.some.injEq,Prod.mk.injEq] at e;obtain ⟨rfl,rfl⟩:=e;exact h
 |i::is,s,s',fs,e,h=>by
  simp only [zR] at e
  split at e
  ·cases e
  ·split at e
   ·rename_i s1 f h1
    split at e
    ·rename_i s2 gs h2
     simp only [Option.some.injEq,Prod.mk.injEq] at e
     obtain ⟨rfl,rfl⟩:=e
     exact Ci h1 (GP is s1 s2 gs h2 h)
    ·cases e
   ·cases e
theorem wP {Γ:bu} {G:bK} (hG:lq Γ.pf G) {k n:Nat} {ops:Array Oper} {m:List Nat} {φ:Nat→Fp} {i:Nat} {y:Oper} (hi:ops.toList[i]? =some y):∀(pre post:List Nat) (s s':St),
  (∀j∈pre,j<i∧∀x,ops.toList[j]? =some x→(m.getD i 0).testBit j=false∧x.apart ops y=true∧BZ P Γ ops.toList n j x (φ j) i y (φ i)=true)→Aa P Γ G k ops n m φ (pre++i::post) s s'→∃s1,dY P Γ G k ops n m i y s=some (s1,φ i)∧Aa P Γ G k ops n m φ (pre++post) s1 s'
 | [],post,s,s',_,e=>by
  obtain ⟨o,s1,ho,h1,h2⟩:=e
  rw [hi] at ho;cases ho
  exact ⟨s1,h1,h2⟩
 |j::pre,post,s,s',hc,e=>by
  obtain ⟨x,s0,hx,h0,e⟩:=e
  obtain ⟨s1,h1,h2⟩:=wP hG hi pre post s0 s' (fun k hk=>hc k (by simp [hk])) e
  obtain ⟨hji,hjx⟩:=hc j (by simp)
  obtain ⟨hb,hap,hcm⟩:=hjx x hx
  obtain ⟨s2,h3,h4⟩:=EG hG hx hji hb hap hcm h0 h1
  exact ⟨s2,h3,x,s1,hx,h4,h2⟩
theorem Ck {Γ:bu} {G:bK} (hG:p8 P G) {k n nn:Nat} {ro:Option Nat} {m:List Nat} {ops:Array Oper} {o:Oper} {i:Nat} (hi:ops[i]? =some o) {s s':St} {f:Fp} (g:dY P Γ G k ops n m i o s=some (s',f)) (fL:s'.ob=true)
  {B:dL} {e:Env} {w:World} {t':List Value} {d:List Deferred} {Q:Exit→Act→World→Prop} {K:Act→World→Prop} (hk:∀i p,B.e.r i=some p→i<k) (hl:TR e s.t t') (R:Rel B e s.h w)
  (hK:∀e' w' t'',e'.m=e.m→TR e' s'.t t''→Rel B e' s'.h w'→K ⟨⟨t''⟩,d⟩ w'):wpOpIn (wF ro) nn P ops Q i K ⟨⟨t'⟩,d⟩ w:=by
 unfold dY at g
 unfold wpOpIn
 rw [hi]
 simp only []
 split at g
 ·rename_i hw
  rw [if_pos (j0 hl hw)]
  split at g
  ·split at g
   ·rename_i r hr
    split at g
    ·rename_i hnew
     cases g
     simp only [av] at fL
     refine qa hG hr fL.2 (.inr fun a ha=>?_) hk hl R fun e' v' w' hv R' hst=>?_
     ·rw [hnew] at ha;exact absurd ha (Nat.not_lt_zero _)
     obtain ⟨t'',q,hl'⟩:=TR.put (d:=d) (o:=o.dst) (hst.slots hl) hv
     rw [q]
     refine hK e' w' t'' hst.m hl' ?_
     rw [hnew,bM] at R'
     exact R'
    ·cases g
   ·cases g
  split at g
  ·rename_i q hop
   obtain ⟨v,h',p,nw⟩:=q
   obtain ⟨_,r,hr,aeq,hnew,Yv,hlen,rfl,rfl,rfl,rfl⟩:=cj.1 hop
   cases g
   simp only [av] at fL
   refine qa hG hr fL.1.2 (.inr fun a ha=>?_) hk hl R fun e' v' w' hv R' hst=>?_
   ·rw [cQ] at Yv;exact Yv a (by omega)
   rw [Ca fL.2] at hK
   rw [aeq] at hst
   obtain ⟨t'',q,hl'⟩:=TR.put (d:=d) (o:=o.dst) (hst.slots hl) hv
   rw [q]
   refine hK e' w' t'' hst.m hl' ?_
   have DC:b6 r.h (cz Γ.nb ops.toList n i) r.new=bU r.h (cz Γ.nb ops.toList n i) r.new:=by
    unfold b6
    split
    ·rename_i hj
     have:r.new=[]:=by
      cases hq:r.new with
      |nil=>rfl
      |cons b bs=>
       exfalso
       have hpos:0<pF Γ.nb o.op:=by rw [←hnew,hq];simp
       have:=(cQ.1 Yv) 0 hpos
       have:=(List.getElem?_eq_some_iff.1 this).1
       omega
     rw [this];simp [bU]
    ·rfl
   rw [DC] at R'
   exact R'
  ·cases g
 ·rename_i hw
  cases g
  rw [if_neg (by rw [j0 hl hw];simp)]
  obtain ⟨t'',q,hl'⟩:=TR.put (d:=d) (o:=o.dst) hl (VR.empty (e:=e))
  rw [q]
  exact ⟨fun _ _=>trivial,hK e w t'' rfl hl' R⟩
 ·cases g
theorem I3 {Γ:bu} {G:bK} (hG:p8 P G) (hP:lq Γ.pf G) {k n nn:Nat} {ro:Option Nat} {ops:Array Oper} {fs:List Fp} (hd:zS P Γ n fs ops=true):∀(fuel:Nat) (listed:Array Bool) (s s':St),listed.size=ops.size→MG ops.toList listed→
  ((List.range ops.size).filter fun i=>!listed.getD i true).length=fuel→
  Aa P Γ G k ops n (masks ops.toList []) (B1 fs) ((List.range ops.size).filter fun i=>!listed.getD i true) s s'→s'.ob=true→
  ∀{B:dL} {e:Env} {w:World} {t':List Value} {d:List Deferred} {Q:Exit→Act→World→Prop},(∀i p,B.e.r i=some p→i<k)→TR e s.t t'→Rel B e s.h w→
  (∀e' w' t'',e'.m=e.m→TR e' s'.t t''→Rel B e' s'.h w'→Q .normal ⟨⟨t''⟩,d⟩ w')→wpAnyIn (wF ro) nn P .any ops Q fuel listed ⟨⟨t'⟩,d⟩ w:=by
 have hd':∀(j:Nat) (y:Oper),ops.toList[j]? =some y→(∀e∈y.after.toList,Region.binds .any e=true→e.on<j)∧
   ∀(i:Nat) (x:Oper),i<j→ops.toList[i]? =some x→((masks ops.toList []).getD j 0).testBit i=true∨Mf P Γ n fs ops i x j y=true:=by
  intro j y hy
  unfold zS at hd
  rw [List.all_eq_true] at hd
  have hmem:(y,j)∈ops.toList.zipIdx:=by
   rw [List.mk_mem_zipIdx_iff_getElem?];exact hy
  have h1:=hd _ hmem
  simp only [Bool.and_eq_true,List.all_eq_true,Bool.or_eq_true,Bool.not_eq_true',decide_eq_true_eq] at h1
  refine ⟨fun e he hb=>(h1.1 e he).resolve_left (by simp [hb]),fun i x hij hx=>?_⟩
  have h2:(x,i)∈ops.toList.zipIdx.take j:=by
   rw [List.mem_iff_getElem?]
   refine ⟨i,?_⟩
   rw [List.getElem?_take_of_lt hij,List.getElem?_zipIdx,hx]
   simp
  exact h1.2 _ h2
 have MJ:∀(listed:Array Bool) (i:Nat),i∈Region.ready .any ops listed→i∈(List.range ops.size).filter fun i=>!listed.getD i true:=fun listed i hi=>by
  obtain ⟨h1,o,ho,_⟩:=mem_ready.1 hi
  rw [List.mem_filter,List.mem_range]
  exact ⟨(Array.getElem?_eq_some_iff.1 ho).1,by simp only [h1,Bool.not_false]⟩
 intro fuel
 induction fuel with
 |zero=>
  intro listed s s' _ _ hlen hr fL B e w t' d Q hk hl R hQ
  have IU:=List.length_eq_zero_iff.1 hlen
  rw [IU] at hr
  rw [Aa] at hr
  subst hr
  refine ⟨?_,hQ e w t' rfl hl R⟩
  cases hrd:Region.ready .any ops listed with
  |nil=>rfl
  |cons i l=>
   have:=MJ listed i (by rw [hrd];simp)
   rw [IU] at this
   cases this
 |succ fuel ih=>
  intro listed s s' hsz wj hlen hr fL B e w t' d Q hk hl R hQ
  refine ⟨fun IU=>?_,fun i hi=>?_⟩
  ·-- the first that is not listed is ready
   exfalso
   cases hL:(List.range ops.size).filter fun i=>!listed.getD i true with
   |nil=>rw [hL] at hlen;cases hlen
   |cons i0 l=>
    have GG:i0∈(List.range ops.size).filter fun i=>!listed.getD i true:=by rw [hL];simp
    rw [List.mem_filter,List.mem_range] at GG
    have oQ:((List.range ops.size).filter fun i=>!listed.getD i true).Pairwise (· < ·):=List.Pairwise.filter _ List.pairwise_lt_range
    have hmin:∀j,j<i0→listed.getD j false=true:=fun j hj=>by
     cases hq:listed.getD j true with
     |true=>
      have My:j<listed.size:=by rw [hsz];omega
      simp [My] at hq ⊢;exact hq
     |false=>
      have hm:j∈(List.range ops.size).filter fun i=>!listed.getD i true:=by
       rw [List.mem_filter,List.mem_range];exact ⟨by omega,by simp only [hq,Bool.not_false]⟩
      rw [hL] at hm oQ
      rcases List.mem_cons.1 hm with rfl|hm
      ·omega
      ·have:=(List.pairwise_cons.1 oQ).1 j hm;omega
    have ho:=Array.getElem?_eq_getElem (xs:=ops) GG.1
    have:i0∈Region.ready .any ops listed:=by
     refine mem_ready.2 ⟨by simpa using GG.2,_,ho,fun e he hb=>hmin e.on ?_⟩
     exact (hd' i0 _ (by rw [Array.getElem?_toList];exact ho)).1 e (by simpa using he) hb
    rw [IU] at this
    cases this
  ·obtain ⟨hun,o,ho,hpre⟩:=mem_ready.1 hi
   have R7:=MJ listed i hi
   obtain ⟨pre,post,hsplit⟩:=List.append_of_mem R7
   have oQ:((List.range ops.size).filter fun i=>!listed.getD i true).Pairwise (· < ·):=List.Pairwise.filter _ List.pairwise_lt_range
   rw [hsplit] at hr oQ
   have EH:∀j∈pre,j<i:=fun j hj=>(List.pairwise_append.1 oQ).2.2 j hj i (by simp)
   have R8:∀j∈post,i<j:=fun j hj=>(List.pairwise_cons.1 (List.pairwise_append.1 oQ).2.1).1 j hj
   have hol:ops.toList[i]? =some o:=by simpa using ho
   have hmk:=Cd ops.toList [] [] rfl (fun i o hi=>by simp at hi)
   have hml:(masks ops.toList []).length=ops.toList.length:=by rw [q9];simp
   have aer:∀j∈pre,j<i∧∀x,ops.toList[j]? =some x→((masks ops.toList []).getD i 0).testBit j=false∧x.apart ops o=true∧BZ P Γ ops.toList n j x (B1 fs j) i o (B1 fs i)=true:=fun j hj=>⟨EH j hj,fun x hx=>by
    have hnb:((masks ops.toList []).getD i 0).testBit j=false:=by
     cases hb:((masks ops.toList []).getD i 0).testBit j with
     |false=>rfl
     |true=>
      exfalso
      have h2:=Ce (by simpa using hmk) hml wj i i o (Nat.le_refl _) hol (fun e he hb=>hpre e (by simpa using he) hb) j hb
      have hjm:j∈(List.range ops.size).filter fun i=>!listed.getD i true:=by rw [hsplit];simp [hj]
      rw [List.mem_filter] at hjm
      have My:j<listed.size:=by rw [hsz];exact List.mem_range.1 hjm.1
      have h3:=hjm.2
      simp [My] at h2 h3
      rw [h2] at h3
      cases h3
    refine ⟨hnb,?_⟩
    rcases (hd' i o hol).2 j x (EH j hj) hx with h1|h1
    ·rw [hnb] at h1;cases h1
    ·unfold Mf at h1
     rw [Bool.and_eq_true] at h1
     exact h1⟩
   obtain ⟨s1,h1,h2⟩:=wP (P:=P) hP hol pre post s s' aer hr
   refine Ck hG ho h1 (GO _ _ _ h2 fL) hk hl R fun e' w' t'' hm' hl' R'=>?_
   have aes:(List.range ops.size).filter (fun j=>!(listed.setIfInBounds i true).getD j true)=pre++post:=by
    have e1:∀j,(listed.setIfInBounds i true).getD j true=(listed.getD j true||decide (j=i)):=fun j=>by
     by_cases hij:i=j
     ·subst hij
      have his:i<listed.size:=by rw [hsz];exact (Array.getElem?_eq_some_iff.1 ho).1
      simp [his]
     ·rw [getD_set_ne true hij]
      have:¬j=i:=fun q=>hij q.symm
      simp [this]
    have e2:(List.range ops.size).filter (fun j=>!(listed.setIfInBounds i true).getD j true)=((List.range ops.size).filter fun j=>!listed.getD j true).filter fun j=>decide (j≠i):=by
     rw [List.filter_filter]
     apply List.filter_congr
     intro j _
     rw [e1 j]
     by_cases hji:j=i<;>simp [hji]
    rw [e2,hsplit,List.filter_append,List.filter_cons]
    have e3:pre.filter (fun j=>decide (j≠i))=pre:=List.filter_eq_self.2 fun j hj=>by have:=EH j hj;simp;omega
    have e4:post.filter (fun j=>decide (j≠i))=post:=List.filter_eq_self.2 fun j hj=>by have:=R8 j hj;simp;omega
    rw [e3,e4]
    simp
   refine ih (listed.setIfInBounds i true) s1 s' (by simp [hsz]) ?_ ?_ (by rw [aes];exact h2) fL hk hl' R' fun e2 w2 t2 hm2 mS R2=>hQ e2 w2 t2 (hm2.trans hm') mS R2
   ·intro j x hx hlj e hes hb
    by_cases hij:i=j
    ·subst hij
     rw [hol] at hx;cases hx
     exact getD_set_true (hpre e (by simpa using hes) hb)
    ·rw [getD_set_ne false hij] at hlj
     exact getD_set_true (wj j x hx hlj e hes hb)
   ·rw [aes]
    rw [hsplit] at hlen
    simp at hlen ⊢
    omega
theorem Rel.EC {B:dL} {e:Env} {h:List Blk} {w:World} (R:Rel B e h w) (n:Nat):Rel B e (h++List.replicate n .gap) w:=
 {os:=R.os,tape:=R.tape,output:=R.output,size:=R.size,inj:=R.inj,dom:=fun i p hi=>by have:=R.dom i p hi;simp;omega,sep:=R.sep,g6:=R.g6,bz:=R.bz,news:=R.news,bF:=R.bF,bZ:=R.bZ,n0:=R.n0,cW:=R.cW,
  gj:=fun i ps hi=>by
   rcases Nat.lt_or_ge i h.length with h1|h1
   ·rw [List.getElem?_append_left h1] at hi;exact R.gj i ps hi
   ·rw [List.getElem?_append_right h1,List.getElem?_replicate] at hi;split at hi<;>cases hi
  gap:=fun i g hi=>by
   rcases Nat.lt_or_ge i h.length with h1|h1
   ·rw [List.getElem?_append_left h1] at hi;exact R.gap i g hi
   ·refine ⟨?_,?_⟩
    ·cases hq:e.r i with
     |none=>rfl
     |some p=>have:=R.dom i p hq;omega
    ·rw [List.getElem?_append_right h1,List.getElem?_replicate] at hi
     split at hi
     ·cases hi;trivial
     ·cases hi
  yi:=R.yi,yb:=R.yb,old:=R.old,win:=R.win,kr:=R.kr,iO:=by have:=R.iO;simp;omega,iZ:=R.iZ,kf:=R.kf}
theorem ri {Γ:bu} {G:bK} (hG:p8 P G) (hP:lq Γ.pf G) {k nn:Nat} {ro:Option Nat} {ops:Array Oper} (hm:P.follows .mixedOrders=true) {s s':St} {fs:List Fp} (hd:zS P Γ s.h.length fs ops=true)
  (hr:zR P Γ G k ops s.h.length (masks ops.toList []) (List.range ops.size) ⟨s.t,s.h++List.replicate (makes Γ.nb ops.toList) .gap,s.ob⟩=some (s',fs)) (fL:s'.ob=true)
  {B:dL} {e:Env} {w:World} {t':List Value} {d:List Deferred} {Q:Exit→Act→World→Prop} (hk:∀i p,B.e.r i=some p→i<k) (hl:TR e s.t t') (R:Rel B e s.h w)
  (hQ:∀e' w' t'',e'.m=e.m→TR e' s'.t t''→Rel B e' s'.h w'→Q .normal ⟨⟨t''⟩,d⟩ w') (id:Nat):(Code.region id ops true).wpIn (wF ro) nn P Q ⟨⟨t'⟩,d⟩ w:=by
 refine wpIn_region_any hm ?_
 have hall:(List.range ops.size).filter (fun i=>!(Array.replicate ops.size false).getD i true)=List.range ops.size:=List.filter_eq_self.2 fun i hi=>by
  rw [List.mem_range] at hi;simp [hi]
 have hrun:Aa P Γ G k ops s.h.length (masks ops.toList []) (B1 fs) (List.range ops.size) ⟨s.t,s.h++List.replicate (makes Γ.nb ops.toList) .gap,s.ob⟩ s':=by
  obtain ⟨q1,q2⟩:=Cj (φ:=B1 fs) _ _ _ _ hr
  refine q2 fun r i hri=>?_
  have RV:r<(List.range ops.size).length:=(List.getElem?_eq_some_iff.1 hri).1
  have I4:r<ops.size:=by simpa using RV
  rw [List.getElem?_range I4] at hri
  cases hri
  have hlt:r<fs.length:=by rw [q1];exact RV
  unfold B1
  rw [List.getElem?_eq_getElem hlt]
 refine I3 hG hP hd ops.size _ ⟨s.t,s.h++List.replicate (makes Γ.nb ops.toList) .gap,s.ob⟩ s' (by simp) ?_ (by rw [hall];simp) (by rw [hall];exact hrun) fL hk hl ((R.EC _).drawn _) hQ
 intro j o ho hlj
 rw [show (Array.replicate ops.size false).getD j false=false from by rw [Array.getD_eq_getD_getElem?,Array.getElem?_replicate];split<;>rfl] at hlj
 cases hlj
theorem mj {G:bK} (hG:p8 P G) {sym:Tmp→Option Bool} {jk:Tmp→Bool} {k n:Nat} {ro:Option Nat} {ops:Array Oper}:∀(is:List Nat) (s s':St),lU P G sym jk k ops is s=some s'→s'.ob=true→
  ∀{B:dL} {e:Env} {w:World} {t':List Value} {d:List Deferred} {Q:Exit→Act→World→Prop},(∀i p,B.e.r i=some p→i<k)→TR e s.t t'→Rel B e s.h w→
  (∀e' w' t'',e'.m=e.m→TR e' s'.t t''→Rel B e' s'.h w'→Q .normal ⟨⟨t''⟩,d⟩ w')→wpOpsIn (wF ro) n P ops Q is ⟨⟨t'⟩,d⟩ w
 | [],s,s',g,_,B,e,w,t',d,Q,hk,hl,R,hQ=>by
  simp only [lU,Option.some.injEq] at g;subst g
  exact hQ e w t' rfl hl R
 |i::is,s,s',g,fL,B,e,w,t',d,Q,hk,hl,R,hQ=>by
  simp only [lU] at g
  have hi:ops[i]? =ops.toList[i]? :=by simp
  rw [wpOpsIn_cons]
  split at g
  ·rename_i hn
   rw [←hi] at hn
   simp only [wpOpIn,hn]
   exact mj hG is s s' g fL hk hl R hQ
  ·rename_i o ho
   rw [←hi] at ho
   split at g
   ·rename_i s1 h1
    refine Ey hG ho h1 (oM is s1 s' g fL) hk hl R fun e' w' t'' hm hl' R'=>?_
    exact mj hG is s1 s' g fL hk hl' R' fun e2 w2 t2 hm2 mS R2=>hQ e2 w2 t2 (hm2.trans hm) mS R2
   ·cases g
end
end Go.Sy
