/- This file proves assertions, appends, copies and what strings come to sound. Conditions: those of the interpreter's own tests. -/
import Derived.IntWalk
import Derived.Test.YthlnlcijnoadcaaGreatDoorBMa
import Derived.Laws.BytesString
import Derived.Laws.BytesArg
import Derived.RangeFuncIn
import Derived.RangeFuncRecord
set_option linter.all false
namespace Go.Sy
open Go
section
variable {P:Program} {e:Env} {B:Base} {h:List Blk} {w:World}
theorem assertS_sound {asserted xT:TypeId} {ok:Bool} {x v:SV} {x':Value} (hs:assertS P asserted ok x=some v) (hx:VR e x x'):∃v',(Instr.typeAssert x' xT asserted ok).run P w= .ok v' w∧VR e v v':=by
 unfold assertS at hs
 split at hs
 ·rename_i t y
  obtain ⟨y',hy,rfl⟩:=hx
  split at hs
  ·cases hs
  ·rename_i d hni hu
   split at hs
   ·rename_i ht
    subst ht
    cases hs
    refine ⟨match ok with|true=>.tuple ⟨[y',.bool true]⟩|false=>y',?_,?_⟩
    ·unfold Instr.typeAssert
     rw [Sem.run_bind,run_underlying hu,Result.andThen_ok]
     cases d<;>first|exact (hni _ rfl).elim|(simp only [if_true];cases ok<;>rfl)
    ·cases ok
     ·exact hy
     ·exact ⟨_,⟨y',_,hy,⟨.bool true,[],rfl,rfl,rfl⟩,rfl⟩,rfl⟩
   ·rename_i ht
    split at hs
    ·rename_i z hz
     cases hs
     obtain ⟨zv,h1,h2⟩:=Option.bind_eq_some_iff.1 hz
     refine ⟨.tuple ⟨[zv,.bool false]⟩,?_,_,⟨zv,_,ofV_sound h2,⟨.bool false,[],rfl,rfl,rfl⟩,rfl⟩,rfl⟩
     unfold Instr.typeAssert
     rw [Sem.run_bind,run_underlying hu,Result.andThen_ok]
     cases d<;>first|exact (hni _ rfl).elim|(simp only [if_neg ht,if_true,Sem.run_bind,zeroOf_run h1,Result.andThen_ok,Sem.run_pure])
    ·cases hs
  ·cases hs
 ·rw [VR] at hx;subst hx
  split at hs
  ·cases hs
  ·rename_i d z hni hu hz
   cases hs
   obtain ⟨zv,h1,h2⟩:=Option.bind_eq_some_iff.1 hz
   refine ⟨.tuple ⟨[zv,.bool false]⟩,?_,_,⟨zv,_,ofV_sound h2,⟨.bool false,[],rfl,rfl,rfl⟩,rfl⟩,rfl⟩
   unfold Instr.typeAssert
   rw [Sem.run_bind,run_underlying hu,Result.andThen_ok]
   cases d<;>first|exact (hni _ rfl).elim|(simp only [if_true,Sem.run_bind,zeroOf_run h1,Result.andThen_ok,Sem.run_pure])
  ·cases hs
 ·cases hs
theorem run_first {n a m z len cap:Nat} {c:Array Value} {t:TypeId} {fr:Nat×Nat} (hb:w.heap[n]? =some (.cells c t fr)) (hl:a+m*z≤c.size):
  (Builtin.firstCells z m (.slice (some ⟨n,a,none⟩) len cap)).run P w= .ok ((c.toList.drop a).take (m*z)).toArray w:=by
 have hlen:((c.toList.drop a).take (m*z)).length=m*z:=by simp;omega
 refine run_firstCells_some w z m ⟨n,a,none⟩ len cap _ hlen fun j v hv=>?_
 rw [addr_add]
 apply cell_of hb
 have hj:j<m*z:=by
  have:=(List.getElem?_eq_some_iff.1 hv).1
  omega
 rwa [List.getElem?_take_of_lt hj,List.getElem?_drop] at hv
theorem run_first0 {z:Nat} {a:Option Addr} {len cap:Nat}:(Builtin.firstCells z 0 (.slice a len cap)).run P w= .ok #[] w:=by
 cases a with
 |none=>simp [Builtin.firstCells]
 |some a=>exact run_firstCells_some w z 0 a len cap [] (by simp) (by simp)
theorem take_take_le {l:List Value} {a b:Nat} (h:a≤b):(l.take b).take a=l.take a:=by rw [List.take_take,Nat.min_eq_left h]
theorem rows_cells {z n:Nat} {g:Nat→List SV} {c:List Value} {o:Nat} (hg:∀i,i<n→PR ⟨fun _=>none,e.z,e.n0,[],fun _=>none⟩ (g i) ((c.drop (o+i*z)).take z)) (hl:o+n*z≤c.length):PR e [.rows z n g] ((c.drop o).take (n*z)):=by
 refine ⟨_,[],?_,fun i hi=>?_,rfl,(List.append_nil _).symm⟩
 ·rw [List.length_take,List.length_drop];omega
 ·have hi2:i*z+z≤n*z:=by
   have:=Nat.mul_le_mul_right z (Nat.succ_le_of_lt hi)
   rw [Nat.succ_mul] at this;exact this
  rw [List.drop_take,List.take_take,List.drop_drop,Nat.min_eq_left (by omega)]
  exact hg i hi
theorem contS_sound (R:Rel B e h w) {y:SV} {y':Value} {cy:List SV} {n z:Nat} (hc:contS h y=some (cy,true)) (hn:lenV y=some n) (hy:VR e y y') (hrow:isRowOK z y=true):
  ∃ys,PR e cy ys∧ys.length=n*z∧(Builtin.lenOf y').run P w= .ok n w∧∀m,m≤n→(Builtin.firstCells z m y').run P w= .ok (ys.take (m*z)).toArray w:=by
 have nilcase:∀{a:Option Addr} {cap:Nat},n=0→y'= .slice a 0 cap→PR e cy []→∃ys,PR e cy ys∧ys.length=n*z∧(Builtin.lenOf y').run P w= .ok n w∧∀m,m≤n→(Builtin.firstCells z m y').run P w= .ok (ys.take (m*z)).toArray w:=fun {a cap} h0 hy' hp=>by
  subst h0 hy'
  refine ⟨[],hp,by simp,rfl,fun m hm=>?_⟩
  obtain rfl:m=0:=by omega
  rw [run_first0];simp
 unfold contS at hc
 split at hc
 ·
  rename_i f k xs
  simp only [Option.some.injEq,Prod.mk.injEq,and_true] at hc
  subst hc
  simp only [lenV,Option.some.injEq] at hn;subst hn
  obtain rfl:z=1:=Nat.eq_of_beq_eq_true hrow
  rcases hy with ⟨rfl,a,cap,hv,_⟩|⟨n,o,cap,c,t,fr,rfl,hz,_,hq,hcap,hfit⟩
  ·exact nilcase rfl hv ⟨[],rfl,rfl⟩
  ·have hb:=R.zok _ _ _ _ hz
   refine ⟨intsV k xs,⟨[],rfl,by rw [lst_eq rfl,List.append_nil]⟩,by simp [intsV_length],rfl,fun m hm=>?_⟩
   rw [run_first hb (by omega),hq,take_take_le (by omega)]
 ·
  rename_i xs
  simp only [Option.some.injEq,Prod.mk.injEq,and_true] at hc
  subst hc
  simp only [lenV,Option.some.injEq] at hn;subst hn
  obtain rfl:z=1:=Nat.eq_of_beq_eq_true hrow
  obtain ⟨s,rfl,rfl⟩:=hy
  refine ⟨intsV .u8 (strL s),⟨[],rfl,by rw [lst_eq rfl,List.append_nil]⟩,by simp [intsV_length],by rw [strL_length];rfl,fun m hm=>?_⟩
  rw [strL_length] at hm
  show Result.ok _ w=_
  congr 1
  apply Array.ext'
  simp [intsV,strL,List.extract_eq_take_drop]
  rfl
 ·
  simp only [Option.some.injEq,Prod.mk.injEq,and_true] at hc
  subst hc
  simp only [lenV,Option.some.injEq] at hn;subst hn
  rw [VR] at hy
  exact nilcase rfl hy rfl
 ·
  rename_i b o i z0 len cap ex wh
  simp only [lenV,Option.some.injEq] at hn;subst hn
  have hzz:z0=z:=Nat.eq_of_beq_eq_true hrow
  subst hzz
  split at hc
  ·rename_i ps hb
   rcases hy with ⟨rfl,rfl,a,hv⟩|⟨p,cap',a,hp,rfl,ha,_,_,hlen,hfit⟩
   ·refine nilcase rfl hv ?_
    split at hc
    ·split at hc<;>(simp only [Option.some.injEq,Prod.mk.injEq] at hc;obtain ⟨rfl,_⟩:=hc;exact ⟨[],rfl,by simp [lst,intsV]⟩)
    ·rename_i ps' hd hz1
     rw [Nat.zero_mul] at hc
     obtain ⟨q,h1,h2⟩:=Option.map_eq_some_iff.1 hc
     simp only [Prod.mk.injEq,and_true] at h2;subst h2
     unfold subP at h1
     obtain ⟨q',_,h3⟩:=Option.bind_eq_some_iff.1 h1
     have:takeP q' 0=some []:=by cases q'<;>rfl
     rw [this] at h3;cases h3
     exact rfl
    ·cases hc
   ·obtain ⟨c,t,hcell,hsz,hpsz,hpr⟩:=R.block hp hb
    have fin:(∀m,m≤len→len≠0→a=p.base+(o+i*z0)∧a+m*z0≤c.size)→PR e cy (((c.toList.drop p.base).drop (o+i*z0)).take (len*z0))→((c.toList.drop p.base).drop (o+i*z0)).length≥len*z0→
      ∃ys,PR e cy ys∧ys.length=len*z0∧(Builtin.lenOf (.slice (some ⟨p.n,a,none⟩) len cap')).run P w= .ok len w∧∀m,m≤len→(Builtin.firstCells z0 m (.slice (some ⟨p.n,a,none⟩) len cap')).run P w= .ok (ys.take (m*z0)).toArray w:=fun hin hpc hge=>by
     refine ⟨_,hpc,by rw [List.length_take];omega,rfl,fun m hm=>?_⟩
     by_cases h0:len=0
     ·subst h0
      obtain rfl:m=0:=by omega
      rw [run_first0];simp
     ·obtain ⟨h1,h2⟩:=hin m hm h0
      rw [run_first hcell h2,h1,List.drop_drop,take_take_le (Nat.mul_le_mul_right z0 hm)]
    have addrs:∀m,m≤len→len≠0→a=p.base+(o+i*z0)∧a+m*z0≤c.size:=fun m hm h0=>by
     have h1:=ha (by omega)
     have h2:=hfit (by omega)
     have h3:m*z0≤cap'*z0:=Nat.mul_le_mul_right z0 (by omega)
     omega
    have hdl:(c.toList.drop p.base).length=c.size-p.base:=by simp
    split at hc
    ·rename_i k nn xs rest hd
     obtain ⟨hd1,hd2⟩:=dropP_sound hd hpr
     obtain ⟨zs,hzs,hcells⟩:=hd1
     have hcl:((c.toList.drop p.base).take (psize ps)).length=psize ps:=by simp;omega
     have hlens:psize ps-o=nn+zs.length:=by
      have:=congrArg List.length hcells
      simp only [List.length_drop,hcl,List.length_append,intsV_length,lst_length] at this
      omega
     rw [hcl] at hd2
     have hwin:∀a b:Nat,a+b≤nn→((c.toList.drop p.base).drop (o+a)).take b=((intsV k (lst nn xs)).drop a).take b:=fun a b hab=>by
      have h1:(((c.toList.drop p.base).take (psize ps)).drop o).drop a=((c.toList.drop p.base).drop (o+a)).take (psize ps-(o+a)):=by rw [List.drop_drop,List.drop_take]
      rw [hcells,List.drop_append_of_le_length (by rw [intsV_length,lst_length];omega)] at h1
      have h2:=congrArg (List.take b) h1
      rw [take_take_le (by omega),List.take_append_of_le_length (by rw [List.length_drop,intsV_length,lst_length];omega)] at h2
      exact h2.symm
     split at hc
     ·simp only [Option.some.injEq,Prod.mk.injEq,Bool.and_eq_true,decide_eq_true_eq] at hc
      obtain ⟨rfl,hxl,hle,rfl⟩:=hc
      refine fin addrs ?_ (by simp;omega)
      have:=hwin 0 len (by omega)
      simp only [Nat.mul_one,Nat.add_zero,List.drop_zero] at this ⊢
      rw [this]
      exact ⟨[],rfl,by rw [List.append_nil, ←intsV_take,lst_eq hxl, ←lst_take hle,List.take_of_length_le (by omega),lst_eq hxl]⟩
     ·simp only [Option.some.injEq,Prod.mk.injEq,Bool.and_eq_true,decide_eq_true_eq] at hc
      obtain ⟨rfl,hle,hxl⟩:=hc
      refine fin addrs ?_ (by simp;omega)
      have:=hwin i len hle
      simp only [Nat.mul_one] at this ⊢
      rw [this]
      refine ⟨[],rfl,?_⟩
      rw [List.append_nil, ←intsV_drop, ←intsV_take, ←lst_drop, ←lst_take (by omega)]
    ·rename_i ps' hd hz1
     obtain ⟨q,h1,h2⟩:=Option.map_eq_some_iff.1 hc
     simp only [Prod.mk.injEq,and_true] at h2;subst h2
     obtain ⟨hd1,hd2⟩:=dropP_sound hd hpr
     have hcl:((c.toList.drop p.base).take (psize ps)).length=psize ps:=by simp;omega
     obtain ⟨h3,h4⟩:=subP_sound h1 hd1
     rw [List.length_drop,hcl] at h4
     rw [hcl] at hd2
     refine fin addrs ?_ (by simp;omega)
     rw [List.drop_drop,List.drop_take,take_take_le (by omega)] at h3
     exact h3
    ·cases hc
  ·cases hc
 ·
  rename_i f z0 n0 g
  simp only [Option.some.injEq,Prod.mk.injEq,and_true] at hc
  subst hc
  simp only [lenV,Option.some.injEq] at hn;subst hn
  have hzz:z0=z:=Nat.eq_of_beq_eq_true hrow
  subst hzz
  rcases hy with ⟨h0,a,cap,hv,_⟩|⟨nb,o,cap,c,t,fr,rfl,hz,_,hq,hcap,hfit⟩
  ·refine nilcase h0 hv ⟨[],[],by simp [h0],fun i hi=>by omega,rfl,rfl⟩
  ·have hb:=R.zok _ _ _ _ hz
   have hle:=Nat.mul_le_mul_right z0 hcap
   have hlt:∀m,m≤n0→m*z0≤n0*z0:=fun m hm=>Nat.mul_le_mul_right z0 hm
   refine ⟨(c.toList.drop o).take (n0*z0),rows_cells hq (by simp;omega),by rw [List.length_take,List.length_drop,Array.length_toList];omega,rfl,fun m hm=>?_⟩
   have:=hlt m hm
   rw [run_first hb (by omega),take_take_le this]
 ·
  rename_i b z0 n0 cap0 ex0
  simp only [lenV,Option.some.injEq] at hn;subst hn
  have hzz:z0=z:=Nat.eq_of_beq_eq_true hrow
  subst hzz
  split at hc
  ·rename_i z' nn g hb
   split at hc
   ·rename_i hz
    obtain rfl:=Nat.eq_of_beq_eq_true hz
    simp only [Option.some.injEq,Prod.mk.injEq,decide_eq_true_eq] at hc
    obtain ⟨rfl,hln⟩:=hc
    rcases hy with ⟨h0,_,a,hv⟩|⟨p,cap',a,hp,rfl,ha,_,_,hlen,hfit⟩
    ·refine nilcase h0 hv ⟨[],[],by simp [h0],fun i hi=>by omega,rfl,rfl⟩
    ·obtain ⟨c,t,hcell,hsz,hpsz,us,zs,k1,k2,k3,k4⟩:=R.block hp hb
     rw [PR] at k3;subst k3
     rw [List.append_nil] at k4
     have hps0:psize [SV.rows z' nn g]=nn*z':=by simp [psize,psz]
     rw [hps0] at k4 hpsz
     by_cases h0:n0=0
     ·subst h0
      refine ⟨[],⟨[],[],by simp,fun i hi=>by omega,rfl,rfl⟩,by simp,rfl,fun m hm=>?_⟩
      obtain rfl:m=0:=by omega
      rw [run_first0];simp
     ·have hc0:cap'≠0:=by omega
      have ha2:=ha hc0
      have hle:=Nat.mul_le_mul_right z' hln
      have hlt:∀m,m≤n0→m*z'≤n0*z':=fun m hm=>Nat.mul_le_mul_right z' hm
      refine ⟨(c.toList.drop a).take (n0*z'),rows_cells (fun i hi=>?_) (by simp;omega),by rw [List.length_take,List.length_drop,Array.length_toList];omega,rfl,fun m hm=>?_⟩
      ·have k:=k2 i (by omega)
       have hi2:i*z'+z'≤nn*z':=by
        have:=Nat.mul_le_mul_right z' (show i+1≤nn by omega)
        rw [Nat.succ_mul] at this;exact this
       rw [←k4,List.drop_take,List.take_take,List.drop_drop,Nat.min_eq_left (by omega), ←ha2] at k
       exact k
      ·have:=hlt m hm
       rw [run_first hcell (by omega),take_take_le this]
   ·cases hc
  ·cases hc
 ·cases hc
end
end Go.Sy
namespace Go.Sy
open Go
section
variable {P:Program} {e:Env} {B:Base} {h:List Blk} {w:World}
theorem PR.split:∀{a b:List SV} {ys:List Value},PR e (a++b) ys→∃y1 y2,ys=y1++y2∧PR e a y1∧PR e b y2
 | [],b,ys,h=>⟨[],ys,rfl,rfl,h⟩
 |x::a,b,ys,h=>by
  rw [List.cons_append] at h
  by_cases hx:notInts x=true
  ·obtain ⟨y,zs,h1,h2,rfl⟩:=(PR.cons hx).1 h
   obtain ⟨y1,y2,rfl,h3,h4⟩:=PR.split h2
   exact ⟨y::y1,y2,rfl,(PR.cons hx).2 ⟨y,y1,h1,h3,rfl⟩,h4⟩
  ·cases x<;>simp [notInts] at hx
   ·obtain ⟨zs,h2,rfl⟩:=h
    obtain ⟨y1,y2,rfl,h3,h4⟩:=PR.split h2
    exact ⟨_,y2,by rw [List.append_assoc],⟨y1,h3,rfl⟩,h4⟩
   ·obtain ⟨us,zs,h0,h1,h2,rfl⟩:=h
    obtain ⟨y1,y2,rfl,h3,h4⟩:=PR.split h2
    exact ⟨_,y2,by rw [List.append_assoc],⟨us,y1,h0,h1,h3,rfl⟩,h4⟩
theorem psize_append (a b:List SV):psize (a++b)=psize a+psize b:=by
 induction a with
 |nil=>simp [psize]
 |cons x xs ih=>simp only [List.cons_append,psize,ih];omega
theorem updP_split {f:SV→Option SV}:∀{ps ps':List SV} {o:Nat},updP f ps o=some ps'→∃pre p p' post,ps=pre++p::post∧ps'=pre++p'::post∧psize pre=o∧f p=some p'∧atP ps o=some p
 | [],ps',o,h=>by cases o<;>simp [updP] at h
 |p::ps,ps',0,h=>by
  simp only [updP] at h
  obtain ⟨p',h1,rfl⟩:=Option.map_eq_some_iff.1 h
  exact ⟨[],p,p',ps,rfl,rfl,rfl,h1,rfl⟩
 |p::ps,ps',o+1,h=>by
  simp only [updP] at h
  split at h
  ·rename_i hb
   have hle:=Nat.le_of_ble_eq_true hb
   obtain ⟨qs,h1,rfl⟩:=Option.map_eq_some_iff.1 h
   obtain ⟨pre,x,x',post,rfl,rfl,h2,h3,h4⟩:=updP_split h1
   exact ⟨p::pre,x,x',post,rfl,rfl,by simp only [psize];omega,h3,by simp only [atP,hb];exact h4⟩
  ·cases h
theorem spl_length {xs ys:List Int} {i n m:Nat} (h1:xs.length=m) (h2:i+n≤m) (h3:n≤ys.length):(spl xs i ys n).length=m:=by simp [spl];omega
theorem Rel.same (R:Rel B e h w) {b:Nat} {ps ps':List SV} (hb:h[b]? =some (.b ps)) (h1:∀ys,PR e ps ys→PR e ps' ys) (h2:psize ps'=psize ps):Rel B e (h.set b (.b ps')) w:=by
 have hlt:=(List.getElem?_eq_some_iff.1 hb).1
 exact {
  os:=R.os,tape:=R.tape,output:=R.output,size:=R.size,inj:=R.inj,dom:=fun i p hi=>by simpa using R.dom i p hi,sep:=R.sep,zok:=R.zok,zfresh:=R.zfresh,glb:=R.glb,news:=R.news,keepr:=R.keepr,keepz:=R.keepz,n0:=R.n0,n0le:=R.n0le
  blk:=fun i qs hi=>by
   by_cases hbi:b=i
   ·subst hbi
    rw [List.getElem?_set_self hlt] at hi;cases hi
    rcases R.blk b ps hb with ⟨g1,g2⟩|⟨p,o,g1,g2,c,t,rfl,g3,g4,g5⟩
    ·exact .inl ⟨by omega,g2⟩
    ·exact .inr ⟨p,_,g1,g2,c,t,rfl,g3,by omega,by rw [h2];exact h1 _ g5⟩
   ·rw [List.getElem?_set_ne hbi] at hi;exact R.blk i qs hi
  gap:=fun i g hi=>by
   by_cases hbi:b=i
   ·subst hbi;rw [List.getElem?_set_self hlt] at hi;cases hi
   ·rw [List.getElem?_set_ne hbi] at hi;exact R.gap i g hi
  yi:=R.yi,yb:=R.yb,old:=R.old,win:=R.win,kr:=R.kr,kle:=by simpa using R.kle,mks:=R.mks,mnd:=R.mnd}
theorem lenI_eq {x:SV} {m:Nat} {xs:List Int} (h:lenI x=some (m,xs)):∃k,x= .ints k m xs:=by
 unfold lenI at h
 split at h
 ·rename_i k m' xs';cases h;exact ⟨k,rfl⟩
 ·cases h
theorem writeI_parts {b o i n:Nat} {k:IntKind} {ys:List Int} {h':List Blk} (hw:writeI h b o i k ys n=some (h',true)):∃ps pre post m xs,h[b]? =some (.b ps)∧ps=pre++ .ints k m xs::post∧psize pre=o∧
  h'=h.set b (.b (pre++ .ints k m (spl xs i ys n)::post))∧xs.length=m∧i+n≤m∧n≤ys.length:=by
 unfold writeI at hw
 split at hw
 ·rename_i ps hb
  split at hw
  ·rename_i m xs ps' ha hu
   simp only [Option.some.injEq,Prod.mk.injEq,Bool.and_eq_true,decide_eq_true_eq] at hw
   obtain ⟨rfl,⟨hxl,hin⟩,hny⟩:=hw
   obtain ⟨pre,x,x',post,rfl,rfl,h2,h3,h4⟩:=updP_split hu
   rw [h4] at ha
   obtain ⟨k',rfl⟩:=lenI_eq ha
   simp only [splI] at h3
   split at h3
   ·rename_i hk
    subst hk
    cases h3
    exact ⟨_,pre,post,m,xs,hb,rfl,h2,rfl,hxl,hin,hny⟩
   ·cases h3
  ·cases hw
 ·cases hw
theorem spl_zero (xs:List Int) (i:Nat) (ys:List Int):spl xs i ys 0=xs:=by simp [spl]
theorem writeI_zero (R:Rel B e h w) {b o i:Nat} {k:IntKind} {ys:List Int} {h':List Blk} (hw:writeI h b o i k ys 0=some (h',true)):Rel B e h' w:=by
 obtain ⟨ps,pre,post,m,xs,hb,rfl,_,rfl,_⟩:=writeI_parts hw
 rw [spl_zero]
 exact R.same hb (fun _ g=>g) rfl
theorem writeI_sound (R:Rel B e h w) {b o i n:Nat} {k:IntKind} {ys:List Int} {h':List Blk} {p:Pl} (hw:writeI h b o i k ys n=some (h',true)) (hp:e.r b=some p):
  ∃w',(storeCells ⟨p.n,p.base+(o+i),none⟩ (intsV k (ys.take n)) 0).run P w= .ok () w'∧Rel B e h' w':=by
 obtain ⟨ps,pre,post,m,xs,hb,rfl,ho,rfl,hxl,hin,hny⟩:=writeI_parts hw
 obtain ⟨c,t,hc,hsz,hpsz,hpr⟩:=R.block hp hb
 have hl:(intsV k (ys.take n)).length=n:=by simp [intsV_length];omega
 have hsize:psize (pre++ .ints k m xs::post)=o+(m+psize post):=by rw [psize_append,ho];simp [psize,psz]
 refine R.storeAt hp hc hsz hpsz (o+i) _ _ (by rw [hl,hsize];omega) (by rw [psize_append,psize_append];simp [psize,psz]) (fun v hv=>?_) ?_
 ·simp only [intsV,List.map_take] at hv
  obtain ⟨x,_,rfl⟩:=List.mem_map.1 (List.mem_of_mem_take hv)
  rfl
 ·obtain ⟨y1,y2,hy,g1,g2⟩:=hpr.split
  obtain ⟨zs,g3,rfl⟩:=g2
  rw [hy]
  have hy1:y1.length=o:=by rw [g1.length,ho]
  rw [lst_eq hxl,hl]
  have e1:(y1++(intsV k xs++zs)).take (o+i)=y1++(intsV k xs).take i:=by
   rw [List.take_append,List.take_of_length_le (by omega),hy1,Nat.add_sub_cancel_left,List.take_append_of_le_length (by rw [intsV_length];omega)]
  have e2:(y1++(intsV k xs++zs)).drop (o+i+n)=(intsV k xs).drop (i+n)++zs:=by
   rw [List.drop_append,List.drop_eq_nil_of_le (by omega),List.nil_append,hy1,show o+i+n-o=i+n by omega,List.drop_append_of_le_length (by rw [intsV_length];omega)]
  rw [e1,e2]
  refine (g1.append (show PR e (.ints k m (spl xs i ys n)::post) (intsV k (spl xs i ys n)++zs) from ⟨zs,g3,by rw [lst_eq (spl_length hxl hin hny)]⟩)) |> fun g=>?_
  have e3:intsV k (spl xs i ys n)=(intsV k xs).take i++intsV k (ys.take n)++(intsV k xs).drop (i+n):=by
   simp [spl,intsV_append,intsV_take,intsV_drop]
  rw [e3] at g
  simpa [List.append_assoc] using g
structure AppY (P:Program) (w:World) (sT xT ty el:TypeId) (i:TypeInfo) (zv:Value) (y':Value) (ny:Nat) (C:List Value→Prop):Prop where
 fit:∃ys,C ys∧∀(base:Option Addr) (sLen sCap:Nat) (w':World),sLen+ny≤sCap→((base=none∧w'=w)∨∃a,base=some a∧(storeCells (a.add (sLen*i.size)) ys 0).run P w= .ok () w')→
  (Builtin.append_ #[sT,xT] ty #[.slice base sLen sCap,y']).run P w= .ok (.slice base (sLen+ny) sCap) w'
 grow:∃ys,C ys∧∀(base:Option Addr) (sLen sCap:Nat) (olds:List Value),(Builtin.firstCells i.size sLen (.slice base sLen sCap)).run P w.drew= .ok olds.toArray w.drew→sCap<sLen+ny→sLen+ny≤2^38→
  (Builtin.append_ #[sT,xT] ty #[.slice base sLen sCap,y']).run P w=
   .ok (.slice (some ⟨w.heap.size,0,none⟩) (sLen+ny) (grownCap w (sLen+ny) sCap el)) (w.drew.alloc (.cells (olds++ys++(Builtin.zeroCells zv.cells (grownCap w (sLen+ny) sCap el-(sLen+ny))).toList).toArray el))
theorem run_append_fit {sT xT ty el:TypeId} {i:TypeInfo} {d:TypeDesc} {base:Option Addr} {sLen sCap n:Nat} {y':Value} {news:List Value} {w':World} (ht:P.underlying sT=some (.slice el)) (hu:P.underlying xT=some d) (hd:∀k,d≠.int k) (hi:P.info? el=some i)
  (hlen:(Builtin.lenOf y').run P w= .ok n w) (hf:(Builtin.firstCells i.size n y').run P w= .ok news.toArray w) (hfit:sLen+n≤sCap)
  (hst:(base=none∧w'=w)∨∃a,base=some a∧(storeCells (a.add (sLen*i.size)) news 0).run P w= .ok () w'):
  (Builtin.append_ #[sT,xT] ty #[.slice base sLen sCap,y']).run P w= .ok (.slice base (sLen+n) sCap) w':=by
 unfold Builtin.append_
 simp only [List.getElem?_toArray,List.getElem?_cons_zero,List.getElem?_cons_succ,Sem.run_bind,run_underlying ht,run_underlying hu,Result.andThen_ok,sizeOf,typeInfo,run_program,hi,Sem.run_pure,Bool.false_eq_true,if_false,hlen,Bool.not_false,if_true,if_pos hfit,hf]
 rcases hst with ⟨rfl,rfl⟩|⟨a,rfl,hr⟩
 ·simp
 ·simp [hr]
theorem run_append_grow' {sT xT ty el:TypeId} {i:TypeInfo} {d:TypeDesc} {zv:Value} {base:Option Addr} {sLen sCap n:Nat} {y':Value} {olds news:List Value} (ht:P.underlying sT=some (.slice el)) (hu:P.underlying xT=some d) (hd:∀k,d≠.int k) (hi:P.info? el=some i) (hz:i.zero=some zv)
  (hlen:(Builtin.lenOf y').run P w= .ok n w) (hold:(Builtin.firstCells i.size sLen (.slice base sLen sCap)).run P w.drew= .ok olds.toArray w.drew) (hf:(Builtin.firstCells i.size n y').run P w.drew= .ok news.toArray w.drew)
  (hg:sCap<sLen+n) (h63:((sLen+n:Nat):Int)≤9223372036854775807) (hb:(sLen+n)*i.bytes≤140737488355328):
  (Builtin.append_ #[sT,xT] ty #[.slice base sLen sCap,y']).run P w=
   .ok (.slice (some ⟨w.heap.size,0,none⟩) (sLen+n) (grownCap w (sLen+n) sCap el)) (w.drew.alloc (.cells (olds++news++(Builtin.zeroCells zv.cells (grownCap w (sLen+n) sCap el-(sLen+n))).toList).toArray el)):=by
 have hn:¬(sLen+n≤sCap):=by omega
 have h63':¬((sLen+n:Nat):Int)>IntKind.i64.max:=by show ¬((sLen+n:Nat):Int)>9223372036854775807;omega
 have h48:¬(Builtin.nextslicecap (sLen+n) sCap*i.bytes>2^48):=by have:=growslice_fits hg hb;omega
 have hroom:∀(m:Nat) (w:World),(askRoom m).run P w= .ok () w:=fun m w=>by unfold askRoom;split<;>simp [mark,Sem.run]
 unfold Builtin.append_
 simp only [List.getElem?_toArray,List.getElem?_cons_zero,List.getElem?_cons_succ,Sem.run_bind,run_underlying ht,run_underlying hu,Result.andThen_ok,sizeOf,typeInfo,run_program,hi,Sem.run_pure,Bool.false_eq_true,if_false,hlen,Bool.not_false,if_true,if_neg hn,h63',false_and,h48]
 have hch:(choose (.appendCap (sLen+n) sCap el)).run P w= .ok (grownCap w (sLen+n) sCap el) w.drew:=by
  simp [Question.forced,grownCap]
 rw [hch]
 simp only [Result.andThen_ok,hroom,hold,hf,zeroValue,Sem.run_bind,typeInfo,run_program,hi,hz,Sem.run_pure]
 simp [newRow,newObj,Sem.run,World.alloc]
 congr 2
 apply Array.ext'
 simp
theorem run_append_zeros {sT xT ty el:TypeId} {i:TypeInfo} {kk:IntKind} {zv:Value} {n:Int} (ht:P.underlying sT=some (.slice el)) (hu:P.underlying xT=some (.int kk)) (hi:P.info? el=some i) (hz:i.zero=some zv) (h1:i.size=1) (hby:i.bytes≤256) (h0:0<n) (hn:n≤2^38):
  (Builtin.append_ #[sT,xT] ty #[.slice none 0 0,.int .i64 n]).run P w=
   .ok (.slice (some ⟨w.heap.size,0,none⟩) (0+n.toNat) (grownCap w (0+n.toNat) 0 el)) (w.drew.alloc (.cells ((Builtin.zeroCells zv.cells n.toNat).toList++(Builtin.zeroCells zv.cells (grownCap w (0+n.toNat) 0 el-(0+n.toNat))).toList).toArray el)):=by
 have hw:IntKind.i64.wrap n=n:=IntWalk.i64_in n (by omega)
 have hneg:¬n<0:=by omega
 have hbig:¬n*(i.bytes:Int)>2^48:=by
  have:n*(i.bytes:Int)≤2^38*256:=Int.mul_le_mul hn (by omega) (by omega) (by decide)
  omega
 have hfit:¬(0+n.toNat≤0):=by omega
 have h63':¬((0+n.toNat:Nat):Int)>IntKind.i64.max:=by show ¬((0+n.toNat:Nat):Int)>9223372036854775807;omega
 have h48:¬(Builtin.nextslicecap (0+n.toNat) 0*i.bytes>2^48):=by
  have hg:0<0+n.toNat:=by omega
  have hb:(0+n.toNat)*i.bytes≤140737488355328:=by
   have:(0+n.toNat)*i.bytes≤2^38*256:=Nat.mul_le_mul (by omega) hby
   omega
  have:=growslice_fits hg hb
  omega
 have hroom:∀(m:Nat) (w:World),(askRoom m).run P w= .ok () w:=fun m w=>by unfold askRoom;split<;>simp [mark,Sem.run]
 have hne:¬n.toNat*i.size=0:=by rw [h1];omega
 unfold Builtin.append_
 have hch:(choose (.appendCap (0+n.toNat) 0 el)).run P w= .ok (grownCap w (0+n.toNat) 0 el) w.drew:=by
  simp [Question.forced,grownCap]
 have hold:(Builtin.firstCells i.size 0 (.slice none 0 0)).run P w.drew= .ok ([]:List Value).toArray w.drew:=run_first0
 simp only [List.getElem?_toArray,List.getElem?_cons_zero,List.getElem?_cons_succ,Sem.run_bind,run_underlying ht,run_underlying hu,Result.andThen_ok,sizeOf,typeInfo,run_program,hi,Sem.run_pure,if_true,asInt,asIntOf,hw,if_neg hneg,if_neg hbig,if_neg hfit,h63',false_and,if_false,h48,hch,hroom,hold,Bool.not_true,Bool.false_eq_true,if_neg hne,zeroValue,hz]
 simp [newRow,newObj,Sem.run,World.alloc]
 congr 2
 apply Array.ext'
 simp
theorem run_append_zeros0 {sT xT ty el:TypeId} {i:TypeInfo} {kk:IntKind} (ht:P.underlying sT=some (.slice el)) (hu:P.underlying xT=some (.int kk)) (hi:P.info? el=some i):
  (Builtin.append_ #[sT,xT] ty #[.slice none 0 0,.int .i64 0]).run P w= .ok (.slice none 0 0) w:=by
 have hw:IntKind.i64.wrap 0=0:=by decide
 unfold Builtin.append_
 simp [Sem.run_bind,run_underlying ht,run_underlying hu,sizeOf,typeInfo,hi,asInt,asIntOf,hw]
theorem run_append_zeros_fit {sT xT ty el:TypeId} {i:TypeInfo} {kk:IntKind} {zv:Value} {base:Option Addr} {sLen sCap:Nat} {n:Int} {w':World} (ht:P.underlying sT=some (.slice el)) (hu:P.underlying xT=some (.int kk)) (hi:P.info? el=some i) (hz:i.zero=some zv) (h1:i.size=zv.cells.size) (hby:i.bytes≤256) (h0:0≤n) (hn:n≤2^38) (hfit:sLen+n.toNat≤sCap)
  (hst:(base=none∧w'=w)∨∃a,base=some a∧(storeCells (a.add (sLen*i.size)) (Builtin.zeroCells zv.cells n.toNat).toList 0).run P w= .ok () w'):
  (Builtin.append_ #[sT,xT] ty #[.slice base sLen sCap,.int .i64 n]).run P w= .ok (.slice base (sLen+n.toNat) sCap) w':=by
 have hw:IntKind.i64.wrap n=n:=IntWalk.i64_in n (by omega)
 have hneg:¬n<0:=by omega
 have hbig:¬n*(i.bytes:Int)>2^48:=by
  have:n*(i.bytes:Int)≤2^38*256:=Int.mul_le_mul hn (by omega) (by omega) (by decide)
  omega
 have hlen:(Builtin.zeroCells zv.cells n.toNat).toList.length=n.toNat*i.size:=by simp [Builtin.zeroCells,h1]
 unfold Builtin.append_
 by_cases hne:n.toNat*i.size=0
 ·have hnil:(Builtin.zeroCells zv.cells n.toNat).toList=[]:=List.length_eq_zero_iff.1 (by rw [hlen];exact hne)
  rw [hnil] at hst
  simp only [List.getElem?_toArray,List.getElem?_cons_zero,List.getElem?_cons_succ,Sem.run_bind,run_underlying ht,run_underlying hu,Result.andThen_ok,sizeOf,typeInfo,run_program,hi,Sem.run_pure,if_true,asInt,asIntOf,hw,if_neg hneg,if_neg hbig,if_pos hfit,Bool.not_true,Bool.false_eq_true,if_false,if_pos hne]
  rcases hst with ⟨rfl,rfl⟩|⟨a,rfl,hr⟩
  ·simp
  ·simp [hr]
 ·simp only [List.getElem?_toArray,List.getElem?_cons_zero,List.getElem?_cons_succ,Sem.run_bind,run_underlying ht,run_underlying hu,Result.andThen_ok,sizeOf,typeInfo,run_program,hi,Sem.run_pure,if_true,asInt,asIntOf,hw,if_neg hneg,if_neg hbig,if_pos hfit,Bool.not_true,Bool.false_eq_true,if_false,if_neg hne,zeroValue,hz]
  rcases hst with ⟨rfl,rfl⟩|⟨a,rfl,hr⟩
  ·simp
  ·simp [hr]
theorem run_append_zeros_grow {sT xT ty el:TypeId} {i:TypeInfo} {kk:IntKind} {zv:Value} {base:Option Addr} {sLen sCap:Nat} {olds:List Value} {n:Int} (ht:P.underlying sT=some (.slice el)) (hu:P.underlying xT=some (.int kk)) (hi:P.info? el=some i) (hz:i.zero=some zv) (h1:i.size=zv.cells.size) (hby:i.bytes≤256) (h0:0≤n) (hn:sLen+n.toNat≤2^38)
  (hold:(Builtin.firstCells i.size sLen (.slice base sLen sCap)).run P w.drew= .ok olds.toArray w.drew) (hg:sCap<sLen+n.toNat):
  (Builtin.append_ #[sT,xT] ty #[.slice base sLen sCap,.int .i64 n]).run P w=
   .ok (.slice (some ⟨w.heap.size,0,none⟩) (sLen+n.toNat) (grownCap w (sLen+n.toNat) sCap el)) (w.drew.alloc (.cells (olds++(Builtin.zeroCells zv.cells n.toNat).toList++(Builtin.zeroCells zv.cells (grownCap w (sLen+n.toNat) sCap el-(sLen+n.toNat))).toList).toArray el)):=by
 have hw:IntKind.i64.wrap n=n:=IntWalk.i64_in n (by omega)
 have hneg:¬n<0:=by omega
 have hbig:¬n*(i.bytes:Int)>2^48:=by
  have:n*(i.bytes:Int)≤2^38*256:=Int.mul_le_mul (by omega) (by omega) (by omega) (by decide)
  omega
 have hfit:¬(sLen+n.toNat≤sCap):=by omega
 have h63':¬((sLen+n.toNat:Nat):Int)>IntKind.i64.max:=by show ¬((sLen+n.toNat:Nat):Int)>9223372036854775807;omega
 have h48:¬(Builtin.nextslicecap (sLen+n.toNat) sCap*i.bytes>2^48):=by
  have hb:(sLen+n.toNat)*i.bytes≤140737488355328:=by
   have:(sLen+n.toNat)*i.bytes≤2^38*256:=Nat.mul_le_mul hn hby
   omega
  have:=growslice_fits hg hb
  omega
 have hroom:∀(m:Nat) (w:World),(askRoom m).run P w= .ok () w:=fun m w=>by unfold askRoom;split<;>simp [mark,Sem.run]
 have hlen:(Builtin.zeroCells zv.cells n.toNat).toList.length=n.toNat*i.size:=by simp [Builtin.zeroCells,h1]
 have hch:(choose (.appendCap (sLen+n.toNat) sCap el)).run P w= .ok (grownCap w (sLen+n.toNat) sCap el) w.drew:=by
  simp [Question.forced,grownCap]
 unfold Builtin.append_
 by_cases hne:n.toNat*i.size=0
 ·have hnil:(Builtin.zeroCells zv.cells n.toNat).toList=[]:=List.length_eq_zero_iff.1 (by rw [hlen];exact hne)
  rw [hnil]
  simp only [List.getElem?_toArray,List.getElem?_cons_zero,List.getElem?_cons_succ,Sem.run_bind,run_underlying ht,run_underlying hu,Result.andThen_ok,sizeOf,typeInfo,run_program,hi,Sem.run_pure,if_true,asInt,asIntOf,hw,if_neg hneg,if_neg hbig,if_neg hfit,h63',false_and,if_false,h48,hch,hroom,hold,Bool.not_true,Bool.false_eq_true,if_pos hne,zeroValue,hz]
  simp [newRow,newObj,Sem.run,World.alloc]
  congr 2
  apply Array.ext'
  simp
 ·simp only [List.getElem?_toArray,List.getElem?_cons_zero,List.getElem?_cons_succ,Sem.run_bind,run_underlying ht,run_underlying hu,Result.andThen_ok,sizeOf,typeInfo,run_program,hi,Sem.run_pure,if_true,asInt,asIntOf,hw,if_neg hneg,if_neg hbig,if_neg hfit,h63',false_and,if_false,h48,hch,hroom,hold,Bool.not_true,Bool.false_eq_true,if_neg hne,zeroValue,hz]
  simp [newRow,newObj,Sem.run,World.alloc]
  congr 2
  apply Array.ext'
  simp
theorem joinP_sound {cx cy:List SV} {xs ys:List Value} (hx:PR e cx xs) (hy:PR e cy ys) (hl:lenOKP cx=true):PR e (joinP cx cy) (xs++ys):=by
 unfold joinP
 split
 ·rename_i k n as k' m bs
  obtain ⟨z1,g1,rfl⟩:=hx
  obtain ⟨z2,g2,rfl⟩:=hy
  rw [PR] at g1 g2;subst g1 g2
  simp only [lenOKP,decide_eq_true_eq] at hl
  split
  ·rename_i hk
   subst hk
   refine ⟨[],rfl,?_⟩
   rw [List.append_nil,List.append_nil,List.append_nil, ←intsV_append]
   congr 1
   rw [lst_eq hl]
   apply List.ext_getElem?
   intro i
   by_cases h1:i<n+m
   ·rw [lst_get _ h1]
    by_cases h2:i<n
    ·rw [List.getElem?_append_left (by omega),List.getD,List.getElem?_append_left (by omega),List.getElem?_eq_getElem (by omega)];rfl
    ·rw [List.getElem?_append_right (by omega),hl,lst_get _ (by omega),List.getD,List.getD,List.getElem?_append_right (by omega),hl]
   ·rw [List.getElem?_eq_none (by simp [lst_length];omega),List.getElem?_eq_none (by rw [lst_length];omega)]
  ·exact ⟨_,⟨[],rfl,rfl⟩,by simp⟩
 ·rw [PR] at hx;subst hx;exact hy
 ·rw [PR] at hy;subst hy;simpa using hx
 ·exact hx.append hy
theorem Rel.rebind (R:Rel B e h w) {b:Nat} {ps ps':List SV} {q:Pl} {w':World} {c:Array Value} {t:TypeId} (hB:B.e.r b=none) (hb:h[b]? =some (.b ps))
  (hno:noUseB b (h.set b (.b ps'))=true) (hos:w'.os=w.os) (htape:w'.tape=w.tape) (hout:w'.output=w.output) (hsize:w.heap.size≤w'.heap.size)
  (hsame:∀n,n<w.heap.size→(∀p,e.r b=some p→p.n≠n)→w'.heap[n]? =w.heap[n]?) (hq:w.heap.size≤q.n∨∃p,e.r b=some p∧p.n=q.n)
  (hcell:w'.heap[q.n]? =some (.cells c t (0,0))) (hfit:q.base+q.size≤c.size) (hps:psize ps'≤q.size) (hpr:PR e ps' ((c.toList.drop q.base).take (psize ps'))):
  Rel B (putR e b q) (h.set b (.b ps')) w':=by
 have hlt:=(List.getElem?_eq_some_iff.1 hb).1
 have hnu:∀(i:Nat) (qs:List SV),(h.set b (.b ps'))[i]? =some (.b qs)→usesL b qs=false:=fun i qs hi=>by
  have:=(List.all_eq_true.1 hno) (.b qs) (List.mem_of_getElem? hi)
  simpa using this
 have hnv:∀{i:Nat} (L:Lp),(h.set b (.b ps'))[i]? =some (.g (some L))→∀v,some v∈L.t→uses b v=false:=fun {i} L hi v hv=>by
  have:=(List.all_eq_true.1 hno) (.g (some L)) (List.mem_of_getElem? hi)
  have:=(List.all_eq_true.1 this) (some v) hv
  simpa [noUseO] using this
 have up:∀(i:Nat) (qs:List SV) (ys:List Value),(h.set b (.b ps'))[i]? =some (.b qs)→PR e qs ys→PR (putR e b q) qs ys:=fun i qs ys hi g=>
  PR.mono' (e:=e) (e':=putR e b q) (fun _ _ h=>h) (Nat.le_refl _) qs ys (fun j p hj hp=>by
   show (if j=b then some q else e.r j)=some p
   rw [if_neg (fun x=>by subst x;rw [hnu i qs hi] at hj;cases hj)];exact hp) g
 have hbn:∀p,e.r b=some p→B.w.heap.size≤p.n:=fun p hp=>by
  rcases R.news b p hp with g|g
  ·rw [hB] at g;cases g
  ·exact g
 have keep:∀(i:Nat) (p:Pl),i≠b→e.r i=some p→w'.heap[p.n]? =w.heap[p.n]? :=fun i p hi hp=>hsame p.n (R.lt hp) fun p' hp' x=>hi (R.inj i b p p' hp hp' x.symm)
 have hqne:∀(i:Nat) (p:Pl),i≠b→e.r i=some p→p.n≠q.n:=fun i p hi hp x=>by
  rcases hq with g|⟨p',g1,g2⟩
  ·have:=R.lt hp;omega
  ·exact hi (R.inj i b p p' hp g1 (by omega))
 exact {
  os:=hos.trans R.os,tape:=htape.trans R.tape,output:=hout.trans R.output
  size:=Nat.le_trans R.size hsize
  inj:=fun i i' p p' hi hi' g=>by
   rcases putR_cases hi with ⟨g0,g1⟩|⟨g1,g1'⟩<;>rcases putR_cases hi' with ⟨g0',g2⟩|⟨g2,g2'⟩
   ·exact R.inj i i' p p' g1 g2 g
   ·subst g2';exact absurd g (hqne i p g0 g1)
   ·subst g1';exact absurd g.symm (hqne i' p' g0' g2)
   ·omega
  dom:=fun i p hi=>by
   rcases putR_cases hi with ⟨_,g⟩|⟨g,_⟩
   ·simpa using R.dom i p g
   ·subst g;simpa using hlt
  sep:=fun i p hi=>by
   rcases putR_cases hi with ⟨_,g⟩|⟨_,g⟩
   ·exact R.sep i p g
   ·subst g
    show e.z p.n=none
    rcases hq with g|⟨p',g1,g2⟩
    ·cases hz:e.z p.n with
     |none=>rfl
     |some x=>have:=R.zlt hz;omega
    ·rw [←g2];exact R.sep b p' g1
  zok:=fun n cc tt fr hz=>by
   have hz':e.z n=some (cc,tt,fr):=hz
   rw [hsame n (R.zlt hz') fun p hp x=>by subst x;rw [R.sep b p hp] at hz';cases hz']
   exact R.zok n cc tt fr hz
  zfresh:=R.zfresh,glb:=R.glb
  news:=fun i p hi=>by
   rcases putR_cases hi with ⟨_,g⟩|⟨_,g⟩
   ·exact R.news i p g
   ·subst g
    rcases hq with g|⟨p',g1,g2⟩
    ·exact .inr (Nat.le_trans R.size g)
    ·exact .inr (by have:=hbn p' g1;omega)
  keepr:=fun i p hi=>by
   show (if i=b then some q else e.r i)=some p
   rw [if_neg (fun x=>by subst x;rw [hB] at hi;cases hi)];exact R.keepr i p hi
  keepz:=R.keepz,n0:=R.n0,n0le:=R.n0le
  blk:=fun i qs hi=>by
   have hi0:=hi
   by_cases hbi:b=i
   ·subst hbi
    rw [List.getElem?_set_self hlt] at hi;cases hi
    exact .inr ⟨q,_,putR_self,hcell,c,t,rfl,hfit,hps,up b _ _ hi0 hpr⟩
   ·rw [List.getElem?_set_ne hbi] at hi
    rcases R.blk i qs hi with ⟨g1,g2⟩|⟨p,o,g1,g2,c',t',rfl,g3,g4,g5⟩
    ·exact .inl ⟨g1,by show (if i=b then some q else e.r i)=none;rw [if_neg (Ne.symm hbi)];exact g2⟩
    ·exact .inr ⟨p,_,by show (if i=b then some q else e.r i)=some p;rw [if_neg (Ne.symm hbi)];exact g1,by rw [keep i p (Ne.symm hbi) g1];exact g2,c',t',rfl,g3,g4,up i _ _ hi0 g5⟩
  gap:=fun i g hi=>by
   by_cases hbi:b=i
   ·subst hbi;rw [List.getElem?_set_self hlt] at hi;cases hi
   ·rw [List.getElem?_set_ne hbi] at hi
    refine ⟨?_,(R.gap i g hi).2.keep (fun n o hn=>?_) rfl fun L hL v v' hm hv=>VR.mono' (e:=e) (e':=putR e b q) (fun _ _ h=>h) (Nat.le_refl _) v v' (fun j p hj hp=>by
     show (if j=b then some q else e.r j)=some p
     rw [if_neg (fun x=>by subst x;rw [hnv L (by rw [←hL,List.getElem?_set_ne hbi];exact hi) v hm] at hj;cases hj)];exact hp) hv⟩
    ·show (if i=b then some q else e.r i)=none
     rw [if_neg (Ne.symm hbi)];exact (R.gap i g hi).1
    ·rw [hsame n (Array.getElem?_eq_some_iff.1 hn).1 fun p hp x=>by
      subst x
      obtain ⟨c',t',h1,_⟩:=R.isCells hp
      rw [h1] at hn;cases hn]
     exact hn
  yi:=R.yi,yb:=R.yb
  old:=fun n hn hno hnl=>by
   rw [hsame n (by have:=R.size;omega) fun p hp=>by have:=hbn p hp;omega]
   exact R.old n hn hno hnl
  win:=fun i p hi=>by
   obtain ⟨o,o',ho,ho',hso⟩:=R.win i p hi
   exact ⟨o,o',ho,by rw [keep i p (fun x=>by subst x;rw [hB] at hi;cases hi) (R.keepr i p hi)];exact ho',hso⟩
  kr:=R.kr
  kle:=by simpa using R.kle
  mks:=fun r hr=>by
   have:=R.mks r hr
   rw [hsame r (Array.getElem?_eq_some_iff.1 this.1).1 fun p hp x=>by
    subst x
    obtain ⟨c',t',h1,_⟩:=R.isCells hp
    have h2:=this.1
    rw [h1] at h2;cases h2]
   exact this
  mnd:=R.mnd}
theorem Rel.zero (R:Rel B e h w) {b:Nat} {ps ps':List SV} (hb:h[b]? =some (.b ps)) (h1:PR e ps' []):Rel B e (h.set b (.b ps')) w:=by
 have hlt:=(List.getElem?_eq_some_iff.1 hb).1
 have h0:psize ps'=0:=h1.length.symm
 exact {
  os:=R.os,tape:=R.tape,output:=R.output,size:=R.size,inj:=R.inj,dom:=fun i p hi=>by simpa using R.dom i p hi,sep:=R.sep,zok:=R.zok,zfresh:=R.zfresh,glb:=R.glb,news:=R.news,keepr:=R.keepr,keepz:=R.keepz,n0:=R.n0,n0le:=R.n0le
  blk:=fun i qs hi=>by
   by_cases hbi:b=i
   ·subst hbi
    rw [List.getElem?_set_self hlt] at hi;cases hi
    cases hr:e.r b with
    |none=>exact .inl ⟨h0,rfl⟩
    |some p=>
     obtain ⟨c,t,g1,g2,g3,g4⟩:=R.block hr hb
     exact .inr ⟨p,_,rfl,g1,c,t,rfl,g2,by omega,by rw [h0,List.take_zero];exact h1⟩
   ·rw [List.getElem?_set_ne hbi] at hi;exact R.blk i qs hi
  gap:=fun i g hi=>by
   by_cases hbi:b=i
   ·subst hbi;rw [List.getElem?_set_self hlt] at hi;cases hi
   ·rw [List.getElem?_set_ne hbi] at hi;exact R.gap i g hi
  yi:=R.yi,yb:=R.yb,old:=R.old,win:=R.win,kr:=R.kr,kle:=by simpa using R.kle,mks:=R.mks,mnd:=R.mnd}
structure EStep (e e':Env) (kill:Option Nat):Prop where
 r:∀(i:Nat) (p:Pl),kill≠some i→e.r i=some p→e'.r i=some p
 z:∀n o,e.z n=some o→e'.z n=some o
 n0:e'.n0≤e.n0
 m:e'.m=e.m
theorem EStep.refl (e:Env) (k:Option Nat):EStep e e k:=⟨fun _ _ _ h=>h,fun _ _ h=>h,Nat.le_refl _,rfl⟩
theorem EStep.of_le {e e':Env} (h:Env.Le e e') (hm:e'.m=e.m) (k:Option Nat):EStep e e' k:=⟨fun i p _=>h.r i p,h.z,h.n0,hm⟩
theorem EStep.le {e e':Env} (h:EStep e e' none):Env.Le e e':=⟨fun i p=>h.r i p (by simp),h.z,h.n0⟩
theorem EStep.slots {e':Env} {k:Option Nat} (hs:EStep e e' k) {t:List (Option SV)} {t':List Value} (g:TR e t t'):TR e' (killT k t) t':=by
 cases k with
 |none=>exact g.mono hs.le
 |some b=>exact g.kill hs.z hs.n0 fun j p hj=>hs.r j p (by simp;exact fun x=>hj x.symm)
def OpTo (B:Base) (e:Env) (j:Nat) (r:Res) (res:Result Next):Prop:=
 ∃nx w' e' v',res= .ok nx w'∧(nx= .value v'∨(nx= .skip∧v'=undef))∧VR e' r.v v'∧Rel B e' (placeH r.h j r.new) w'∧EStep e e' r.kill
theorem elemOK_info {el:TypeId} {z:Nat} (hk:elemOK P el=some z):∃i zv,P.info? el=some i∧i.size=z+1∧i.zero=some zv∧zv.cells.size=z+1∧i.bytes≤256:=by
 unfold elemOK at hk
 split at hk
 ·rename_i by_ z' zs hb hs hz
  split at hk
  ·rename_i hc
   simp only [Bool.and_eq_true,decide_eq_true_eq] at hc
   cases hk
   obtain ⟨i,hi,hsz⟩:=szOf_info hs
   obtain ⟨zv,h1,h2⟩:=zeroS_len hz
   refine ⟨i,zv,hi,hsz,?_,by omega,?_⟩
   ·simpa [zeroOf,hi] using h1
   ·simp [hi] at hb;omega
  ·cases hk
 ·cases hk
theorem placeH_nil (h:List Blk) (j:Nat):placeH h j []=h:=by unfold placeH;split<;>simp [fillH]
theorem zeroCells_length (c:Array Value) (n:Nat):(Builtin.zeroCells c n).toList.length=n*c.size:=by simp [Builtin.zeroCells]
theorem one_cells {ps:List SV} {ys:List Value} (h:PR e ps ys) (hk:okParts ps=true):∀v∈ys,v.oneCell'=true:=cells_oneCell h hk
theorem append_rsl (R:Rel B e h w) {k j b z len cap ny n:Nat} {ex pp:Bool} {g g':Nat→List SV} {sT xT ty el:TypeId} {i:TypeInfo} {zv x' y':Value} (hk:∀i p,B.e.r i=some p→i<k) (hkb:k≤b) (hsz:i.size=z+1) (hzs:zv.cells.size=z+1)
  (hx:VR e (.rsl b (z+1) len cap ex) x') (hb:h[b]? =some (.b [.rows (z+1) n g])) (hln:len≤n) {C:List Value→Prop} (Y:AppY P w sT xT ty el i zv y' ny C) (hC:∀ys,C ys→ys.length=ny*(z+1)∧∀v∈ys,v.oneCell'=true) (hbig:len+ny≤2^38)
  (hno:noUseB b (h.set b (.b [.rows (z+1) (len+ny) g']))=true) (hg':∀xs ys,C ys→PR e [.rows (z+1) len g] xs→xs.length=len*(z+1)→PR e [.rows (z+1) (len+ny) g'] (xs++ys)):
  OpTo B e j ⟨.rsl b (z+1) (len+ny) (len+ny) false,h.set b (.b [.rows (z+1) (len+ny) g']),[],some b,pp⟩ ((do pure (.value (←Builtin.append_ #[sT,xT] ty #[x',y'])):Sem Next).run P w):=by
 have hB:B.e.r b=none:=by
  cases hq:B.e.r b with
  |none=>rfl
  |some p=>have:=hk b p hq;omega
 have hcx:contS h (.rsl b (z+1) len cap ex)=some ([.rows (z+1) len g],true):=by
  simp only [contS,hb,show Nat.beq (z+1) (z+1)=true from Nat.beq_refl _,decide_eq_true hln]
 have hrow:isRowOK (z+1) (.rsl b (z+1) len cap ex)=true:=Nat.beq_refl _
 obtain ⟨xs,hxs,hxl,_,hfx⟩:=contS_sound (P:=P) (z:=z+1) R hcx (n:=len) rfl hx hrow
 have hjs:psize [SV.rows (z+1) (len+ny) g']=(len+ny)*(z+1):=by simp [psize,psz]
 have grow:∀(base:Option Addr) (sCap:Nat),x'= .slice base len sCap→sCap<len+ny→OpTo B e j ⟨.rsl b (z+1) (len+ny) (len+ny) false,h.set b (.b [.rows (z+1) (len+ny) g']),[],some b,pp⟩ ((do pure (.value (←Builtin.append_ #[sT,xT] ty #[x',y'])):Sem Next).run P w):=fun base sCap hx' hlt=>by
  subst hx'
  obtain ⟨xs2,hxs2,hxl2,_,hfx2⟩:=contS_sound (P:=P) (z:=z+1) (R.drawn (w.drawn+1)) hcx (n:=len) rfl hx hrow
  have hold:(Builtin.firstCells i.size len (.slice base len sCap)).run P w.drew= .ok xs2.toArray w.drew:=by
   have:=hfx2 len (Nat.le_refl _)
   rw [List.take_of_length_le (by omega), ←hsz] at this
   exact this
  obtain ⟨ys,hCy,hgr⟩:=Y.grow
  have hyl:=(hC ys hCy).1
  have hrun:=hgr base len sCap xs2 hold hlt hbig
  have hge:len+ny≤grownCap w (len+ny) sCap el:=by unfold grownCap;simp [Question.cut]
  have hcells:(xs2++ys++(Builtin.zeroCells zv.cells (grownCap w (len+ny) sCap el-(len+ny))).toList).length=grownCap w (len+ny) sCap el*(z+1):=by
   simp only [List.length_append,zeroCells_length,hzs,hyl,hxl2, ←Nat.add_mul];congr 1;omega
  refine ⟨_,_,putR e b ⟨w.heap.size,0,grownCap w (len+ny) sCap el*(z+1)⟩,_,(by simp only [Sem.run_bind,hrun,Result.andThen_ok,Sem.run_pure];try rfl),.inl rfl,.inr ⟨_,grownCap w (len+ny) sCap el,0,putR_self,rfl,fun _=>by simp,hge,(fun q=>by cases q),hge,fun _=>by simp⟩,?_,⟨fun i p hi hpi=>?_,fun _ _ h=>h,Nat.le_refl _,rfl⟩⟩
  ·rw [placeH_nil]
   refine R.rebind hB hb hno rfl rfl rfl (by rw [World.size_alloc];exact Nat.le_succ _) (fun n hn _=>?_) (.inl (Nat.le_refl _)) (heap_alloc_new _ _) (by rw [Nat.zero_add, ←hcells];exact Nat.le_refl _) (by rw [hjs];exact Nat.mul_le_mul_right _ hge) ?_
   ·exact heap_alloc_old w.drew _ n hn
   ·simp only [List.drop_zero]
    rw [List.take_append_of_le_length (by rw [hjs,List.length_append,hxl2,hyl, ←Nat.add_mul];exact Nat.le_refl _),List.take_of_length_le (by rw [hjs,List.length_append,hxl2,hyl, ←Nat.add_mul];exact Nat.le_refl _)]
    exact hg' xs2 ys hCy hxs2 hxl2
  ·show (if i=b then _ else e.r i)=some p
   rw [if_neg (fun q=>hi (by rw [q]))];exact hpi
 obtain ⟨ys,hCy,hfi⟩:=Y.fit
 obtain ⟨hyl,hone⟩:=hC ys hCy
 rcases hx with ⟨rfl,rfl,a,rfl⟩|⟨p,cap',a,hpp,rfl,haa,hcap,hex,hlc,hft⟩
 ·by_cases h0:ny=0
  ·subst h0
   have hyn:ys=[]:=List.length_eq_zero_iff.1 (by rw [hyl];simp)
   subst hyn
   have hrun:=hfi a 0 0 w (Nat.le_refl _) (by cases a with|none=>exact .inl ⟨rfl,rfl⟩|some a=>exact .inr ⟨a,rfl,rfl⟩)
   refine ⟨_,w,e,_,(by simp only [Sem.run_bind,hrun,Result.andThen_ok,Sem.run_pure];try rfl),.inl rfl,.inl ⟨rfl,rfl,a,rfl⟩,?_,EStep.refl _ _⟩
   rw [placeH_nil]
   have hxn:xs=[]:=List.length_eq_zero_iff.1 (by rw [hxl];simp)
   subst hxn
   exact R.zero hb (hg' [] [] hCy hxs (by simp))
  ·exact grow a 0 rfl (by omega)
 ·by_cases hroom:len+ny≤cap'
  ·obtain ⟨c,t,hcell,hsz2,hpsz,hpr⟩:=R.block hpp hb
   by_cases hc0:cap'=0
   ·have hl0:len=0:=by omega
    have hn0:ny=0:=by omega
    subst hc0 hl0 hn0
    have hyn:ys=[]:=List.length_eq_zero_iff.1 (by rw [hyl];simp)
    subst hyn
    have hrun:=hfi (some ⟨p.n,a,none⟩) 0 0 w (Nat.le_refl _) (.inr ⟨_,rfl,rfl⟩)
    refine ⟨_,w,e,_,(by simp only [Sem.run_bind,hrun,Result.andThen_ok,Sem.run_pure];try rfl),.inl rfl,.inl ⟨rfl,rfl,_,rfl⟩,?_,EStep.refl _ _⟩
    rw [placeH_nil]
    have hxn:xs=[]:=List.length_eq_zero_iff.1 (by rw [hxl];simp)
    subst hxn
    exact R.zero hb (hg' [] [] hCy hxs (by simp))
   ·have ha2:=haa hc0
    have hft2:=hft hc0
    have hmul:(len+ny)*(z+1)≤cap'*(z+1):=Nat.mul_le_mul_right _ hroom
    have hsplit:(len+ny)*(z+1)=len*(z+1)+ny*(z+1):=Nat.add_mul _ _ _
    have hst:=run_storeCells_at P p.n (a+len*(z+1)) t ys 0 c w hcell (by omega) hone
    simp only [Nat.add_zero] at hst
    have hrun:=hfi (some ⟨p.n,a,none⟩) len cap' _ hroom (.inr ⟨_,rfl,by rw [addr_add,hsz];exact hst⟩)
    have hxcells:xs=(c.toList.drop a).take (len*(z+1)):=by
     have h1:=hfx len (Nat.le_refl _)
     rw [run_first hcell (by omega),List.take_of_length_le (l:=xs) (by omega)] at h1
     have h2:((c.toList.drop a).take (len*(z+1))).toArray=xs.toArray:=(Result.ok.inj h1).1
     exact (congrArg Array.toList h2).symm
    refine ⟨_,_,putR e b ⟨p.n,a,cap'*(z+1)⟩,_,(by simp only [Sem.run_bind,hrun,Result.andThen_ok,Sem.run_pure];try rfl),.inl rfl,.inr ⟨_,cap',a,putR_self,rfl,fun _=>by simp,hroom,(fun q=>by cases q),hroom,fun _=>by simp⟩,?_,⟨fun i p hi hpi=>?_,fun _ _ h=>h,Nat.le_refl _,rfl⟩⟩
    ·rw [placeH_nil]
     refine R.rebind hB hb hno rfl rfl rfl (by simp [World.setRow]) (fun n hn hne=>setRow_other w p.n n _ (fun q=>hne p hpp q.symm)) (.inr ⟨p,hpp,rfl⟩) (setRow_heap w p.n c _ t (0,0) hcell) (by simp;omega) (by rw [hjs];exact hmul) ?_
     rw [hjs]
     have hgoal:((c.toList.take (a+len*(z+1))++ys++c.toList.drop (a+len*(z+1)+ys.length)).drop a).take ((len+ny)*(z+1))=xs++ys:=by
      rw [List.append_assoc,List.drop_append_of_le_length (by simp;omega),List.drop_take,Nat.add_sub_cancel_left, ←hxcells, ←List.append_assoc,
       List.take_append_of_le_length (by rw [List.length_append];omega),List.take_of_length_le (by rw [List.length_append];omega)]
     simp only []
     rw [hgoal]
     exact hg' xs ys hCy hxs hxl
    ·show (if i=b then _ else e.r i)=some _
     rw [if_neg (fun q=>hi (by rw [q]))];exact hpi
  ·exact grow _ cap' rfl (by omega)
theorem rows_more {z n m:Nat} {g g':Nat→List SV} {xs ys:List Value} (hx:PR e [.rows z n g] xs) (hxl:xs.length=n*z) (hyl:ys.length=m*z) (h1:∀i,i<n→PR ⟨fun _=>none,e.z,e.n0,[],fun _=>none⟩ (g i) ((xs.drop (i*z)).take z)→PR ⟨fun _=>none,e.z,e.n0,[],fun _=>none⟩ (g' i) ((xs.drop (i*z)).take z))
  (h2:∀i,i<m→PR ⟨fun _=>none,e.z,e.n0,[],fun _=>none⟩ (g' (n+i)) ((ys.drop (i*z)).take z)):PR e [.rows z (n+m) g'] (xs++ys):=by
 obtain ⟨us,zs,k1,k2,k3,k4⟩:=hx
 rw [PR] at k3;subst k3
 rw [List.append_nil] at k4;subst k4
 refine ⟨xs++ys,[],by rw [List.length_append,Nat.add_mul];omega,fun i hi=>?_,rfl,(List.append_nil _).symm⟩
 by_cases hn:i<n
 ·have hi2:i*z+z≤n*z:=by
   have:=Nat.mul_le_mul_right z (Nat.succ_le_of_lt hn)
   rw [Nat.succ_mul] at this;exact this
  rw [List.drop_append_of_le_length (by omega),List.take_append_of_le_length (by rw [List.length_drop];omega)]
  exact h1 i hn (k2 i hn)
 ·obtain ⟨j,rfl⟩:∃j,i=n+j:=⟨i-n,by omega⟩
  have:(n+j)*z=xs.length+j*z:=by rw [Nat.add_mul];omega
  rw [this,List.drop_append,List.drop_eq_nil_of_le (by omega),List.nil_append,Nat.add_sub_cancel_left]
  exact h2 j (by omega)
theorem OpTo.val {j:Nat} {r:Res} {u:SV} {res:Result Next} (g:OpTo B e j r res) (hv:∀e v,VR e r.v v→VR e u v):OpTo B e j {r with v:=u} res:=by
 obtain ⟨nx,w',e',v',h1,h2,h3,h4,h5⟩:=g
 exact ⟨nx,w',e',v',h1,h2,hv _ _ h3,h4,h5⟩
theorem rowV_of {cy:List SV} {j z ny:Nat} {e:Env} {v:Value} (h:VR e (.sl j 0 0 z ny ny false true) v):VR e (rowV cy j z ny) v:=by
 unfold rowV
 split
 ·exact VR.sl_rsl h
 ·exact h
theorem rep_row {α:Type} (l:List α):∀(m i:Nat),i<m→(((List.replicate m l).flatten).drop (i*l.length)).take l.length=l
 |0,i,h=>by omega
 |m+1,0,_=>by simp [List.replicate_succ]
 |m+1,i+1,h=>by
  rw [List.replicate_succ,List.flatten_cons,Nat.succ_mul,Nat.add_comm,List.drop_append,List.drop_eq_nil_of_le (by omega),List.nil_append,Nat.add_sub_cancel_left]
  exact rep_row l m i (by omega)
theorem appendS_sound (R:Rel B e h w) {k j:Nat} {inp:Bool} {sT xT ty:TypeId} {x y:SV} {x' y':Value} {r:Res} (ha:appendS P k h j inp sT xT x y=some r) (hp:r.p=true) (hj:Free h j r.new.length)
  (hk:∀i p,B.e.r i=some p→i<k) (hx:VR e x x') (hy:VR e y y'):OpTo B e j r ((do pure (.value (←Builtin.append_ #[sT,xT] ty #[x',y'])):Sem Next).run P w):=by
 unfold appendS at ha
 split at ha
 ·
  rename_i el kk ht hu
  unfold appendZ at ha
  split at ha
  rotate_left
  ·rename_i b z' len cap ex m z hki hok
   obtain ⟨i,zv,hi,hsz,hz,hzs,hby⟩:=elemOK_info hok
   split at ha
   ·rename_i zz n g zs hb hzS
    split at ha
    ·rename_i hc
     simp only [Bool.and_eq_true,decide_eq_true_eq] at hc
     obtain ⟨⟨⟨⟨⟨hkb,rfl⟩,rfl⟩,hok2⟩,hcl⟩,hno⟩:=hc
     cases ha
     simp only [Bool.and_eq_true,decide_eq_true_eq] at hp
     obtain ⟨⟨hln,hm0⟩,hbig⟩:=hp
     obtain rfl:y'= .int .i64 m:=hy
     obtain ⟨zv',hzv,hzp⟩:=zeroS_sound (P:=P) (e:=e) hzS
     obtain rfl:zv=zv':=by simp [zeroOf,hi,hz] at hzv;exact hzv
     have hlz:zv.cells.toList.length=z+1:=by simpa using hzs
     have hzc:(Builtin.zeroCells zv.cells m.toNat).toList=(List.replicate m.toNat zv.cells.toList).flatten:=rep_eq zv.cells (by omega) m.toNat
     have hone:∀v∈(Builtin.zeroCells zv.cells m.toNat).toList,v.oneCell'=true:=fun v hv=>by
      rw [hzc] at hv
      obtain ⟨l,hl,hvl⟩:=List.mem_flatten.1 hv
      rw [List.eq_of_mem_replicate hl] at hvl
      exact one_cells hzp hok2 v hvl
     have Y:AppY P w sT xT ty el i zv (.int .i64 m) m.toNat (· =(Builtin.zeroCells zv.cells m.toNat).toList):={
      fit:=⟨_,rfl,fun base sLen sCap w' h1 h2=>run_append_zeros_fit ht hu hi hz (by omega) hby hm0 (by omega) h1 h2⟩
      grow:=⟨_,rfl,fun base sLen sCap olds h1 h2 h3=>run_append_zeros_grow ht hu hi hz (by omega) hby hm0 h3 h1 h2⟩}
     have hzl:(Builtin.zeroCells zv.cells m.toNat).toList.length=m.toNat*(z+1):=by rw [zeroCells_length,hzs]
     refine append_rsl (P:=P) R hk (Nat.le_of_ble_eq_true hkb) hsz hzs hx hb hln Y (fun ys hys=>by subst hys;exact ⟨hzl,hone⟩) hbig hno fun xs ys hys hxs hxl=>?_
     subst hys
     refine rows_more hxs hxl hzl (fun i hi g1=>?_) fun i hi=>?_
     ·rw [Nat.ble_eq_true_of_le (show i+1≤len by omega)]
      exact mergeP_t g1
     ·rw [show Nat.ble (len+i+1) len=false from by
       cases hb:Nat.ble (len+i+1) len with
       |false=>rfl
       |true=>have:=Nat.le_of_ble_eq_true hb;omega]
      refine mergeP_f ?_
      rw [hzc, ←hlz,rep_row _ _ _ hi]
      exact hzp.closed hcl
    ·cases ha
   ·cases ha
  ·cases ha
  ·rename_i n ki hki hok
   obtain ⟨i,zv,hi,hsz,hz,hzs,hby⟩:=elemOK_info hok
   simp only [Option.some.injEq] at ha
   subst ha
   simp only [Bool.and_eq_true,decide_eq_true_eq] at hp
   obtain rfl:x'= .slice none 0 0:=hx
   obtain rfl:y'= .int .i64 n:=hy
   by_cases h0:n=0
   ·subst h0
    exact ⟨_,w,e,_,(by simp only [Sem.run_bind,run_append_zeros0 ht hu hi,Result.andThen_ok,Sem.run_pure];try rfl),.inl rfl,.inl ⟨rfl,rfl,none,rfl⟩,R.nothing (by simpa using hj) rfl,EStep.refl _ _⟩
   ·have hrun:=run_append_zeros (w:=w) (ty:=ty) ht hu hi hz (by omega) hby (by omega) hp.2
    have hfree:=R.free (j:=j) (by rcases hj with g|g;exact .inl g;exact .inr (by simpa using g 0 (by simp)))
    obtain ⟨zs,hzS⟩:∃zs,zeroS P el=some zs:=by
     unfold elemOK at hok
     split at hok
     ·rename_i zs _ _ q;exact ⟨_,q⟩
     ·cases hok
    have hrow:=zero_row (e:=e) (n:=n.toNat) hzS (z:=zv) (by simp [zeroOf,hi,hz]) (by omega) (ps:=[.ints ki n.toNat (List.replicate n.toNat 0)]) (by rw [hki])
    have hl1:(Builtin.zeroCells zv.cells n.toNat).toList.length=n.toNat:=by rw [zeroCells_length,hzs];omega
    have hge:0+n.toNat≤grownCap w (0+n.toNat) 0 el:=by unfold grownCap;simp [Question.cut]
    have hps:psize [SV.ints ki n.toNat (List.replicate n.toNat 0)]=n.toNat:=by simp [psize,psz]
    have R2:=(R.drawn (w.drawn+1)).make (j:=j) (t:=el) (ps:=[.ints ki n.toNat (List.replicate n.toNat 0)]) (ys:=(Builtin.zeroCells zv.cells n.toNat).toList++(Builtin.zeroCells zv.cells (grownCap w (0+n.toNat) 0 el-(0+n.toNat))).toList) (by simpa using hj)
     (by rw [hps,List.take_append_of_le_length (by omega),List.take_of_length_le (by omega)];exact hrow)
     (by rw [hps,List.length_append,hl1];omega)
    refine ⟨_,_,_,_,(by simp only [Sem.run_bind,hrun,Result.andThen_ok,Sem.run_pure];try rfl),.inl rfl,.inr ⟨_,grownCap w (0+n.toNat) 0 el,0,putR_self,by rw [Nat.zero_add],fun _=>by simp,by omega,(fun q=>by cases q),by omega,fun _=>?_⟩,R2,EStep.of_le (putR_le hfree) rfl _⟩
    show 0+0*1+grownCap w (0+n.toNat) 0 el*1≤_
    rw [List.length_append,hl1,zeroCells_length,hzs]
    dsimp only
    omega
 ·cases ha
 ·rename_i el d hni ht hu
  have hd:∀k,d≠.int k:=fun k q=>hni k (by rw [q])
  split at ha
  ·rename_i z cy py ny hok hcy hny
   obtain ⟨i,zv,hi,hsz,hz,hzs,hby⟩:=elemOK_info hok
   have key:∀(a:Option Addr) (pp:Bool),Free h j 1→x'= .slice a 0 0→py=true→isRowOK (z+1) y=true→ny≤2^38→
     OpTo B e j ⟨.sl j 0 0 (z+1) ny ny false true,h,[.b cy],none,pp⟩ ((do pure (.value (←Builtin.append_ #[sT,xT] ty #[x',y'])):Sem Next).run P w):=fun a pp hj hx' hpy hrow hbig=>by
    subst hx' hpy
    obtain ⟨ys,hys,hyl,hlen,hf⟩:=contS_sound (P:=P) R hcy hny hy hrow
    obtain ⟨ys2,hys2,hyl2,hlen2,hf2⟩:=contS_sound (P:=P) (R.drawn (w.drawn+1)) hcy hny hy hrow
    by_cases h0:ny=0
    ·subst h0
     have hnil:ys=[]:=List.length_eq_zero_iff.1 (by rw [hyl];simp)
     subst hnil
     have hrun:=run_append_fit (w:=w) (w':=w) (ty:=ty) (base:=a) (sLen:=0) (sCap:=0) (news:=[]) ht hu hd hi hlen (by have:=hf 0 (Nat.le_refl _);rw [←hsz] at this;simpa using this) (Nat.le_refl _) (by cases a with|none=>exact .inl ⟨rfl,rfl⟩|some a=>exact .inr ⟨a,rfl,rfl⟩)
     refine ⟨_,w,e,_,(by simp only [Sem.run_bind,hrun,Result.andThen_ok,Sem.run_pure];try rfl),.inl rfl,.inl ⟨rfl,rfl,a,rfl⟩,R.nothing (by simpa using hj) hys.length.symm,EStep.refl _ _⟩
    ·have hold:(Builtin.firstCells i.size 0 (.slice a 0 0)).run P w.drew= .ok ([]:List Value).toArray w.drew:=run_first0
     have hnew:(Builtin.firstCells i.size ny y').run P w.drew= .ok ys2.toArray w.drew:=by
      have:=hf2 ny (Nat.le_refl _)
      rw [←hsz] at this hyl2
      rw [List.take_of_length_le (by omega)] at this
      exact this
     have hbb:(0+ny)*i.bytes≤140737488355328:=by
      have:ny*i.bytes≤2^38*256:=Nat.mul_le_mul hbig hby
      rw [Nat.zero_add];omega
     have hrun:=run_append_grow' (w:=w) (ty:=ty) ht hu hd hi hz hlen hold hnew (by omega) (by omega) hbb
     have hcells:([]++ys2++(Builtin.zeroCells zv.cells (grownCap w (0+ny) 0 el-(0+ny))).toList).length=ny*(z+1)+(grownCap w (0+ny) 0 el-(0+ny))*(z+1):=by
      simp only [List.nil_append,List.length_append,zeroCells_length,hzs,hyl2]
     have hge:0+ny≤grownCap w (0+ny) 0 el:=by unfold grownCap;simp [Question.cut]
     have hmul:ny*(z+1)+(grownCap w (0+ny) 0 el-(0+ny))*(z+1)=grownCap w (0+ny) 0 el*(z+1):=by rw [←Nat.add_mul];congr 1;omega
     have R2:=(R.drawn (w.drawn+1)).make (j:=j) (t:=el) (ps:=cy) (ys:=[]++ys2++(Builtin.zeroCells zv.cells (grownCap w (0+ny) 0 el-(0+ny))).toList) (by simpa using hj)
      (by rw [List.nil_append,List.take_append_of_le_length (by rw [hys2.length];exact Nat.le_refl _),List.take_of_length_le (by rw [hys2.length];exact Nat.le_refl _)];exact hys2)
      (by rw [hcells, ←hys2.length,hyl2];omega)
     have hfree:=R.free (j:=j) (by rcases hj with g|g;exact .inl g;exact .inr (by simpa using g 0 (by simp)))
     refine ⟨_,_,_,_,(by simp only [Sem.run_bind,hrun,Result.andThen_ok,Sem.run_pure];try rfl),.inl rfl,.inr ⟨_,grownCap w (0+ny) 0 el,0,putR_self,by rw [Nat.zero_add],fun _=>by simp,by omega,(fun q=>by cases q),by omega,fun _=>?_⟩,R2,EStep.of_le (putR_le hfree) rfl _⟩
     show 0+0*(z+1)+grownCap w (0+ny) 0 el*(z+1)≤_
     rw [hcells,hmul];simp
   split at ha
   ·
    cases ha
    simp only [andT_iff,decide_eq_true_eq] at hp
    rw [VR] at hx
    exact (key none _ hj hx hp.1.1 hp.1.2 hp.2).val fun e v h=>rowV_of h
   ·rename_i b o ix z' len cap ex wh
    split at ha
    ·
     rename_i hem
     cases ha
     simp only [andT_iff,decide_eq_true_eq] at hp
     have hem':ex=true∧cap=0:=by
      unfold emptyX at hem
      split at hem
      ·cases hem
      ·split at hem
       ·exact ⟨rfl,Nat.eq_of_beq_eq_true hem⟩
       ·cases hem
     obtain ⟨rfl,rfl⟩:=hem'
     rcases hx with ⟨_,_,a,rfl⟩|⟨p,cap',a,_,rfl,_,_,hex,hlc,_⟩
     ·exact key a _ hj rfl hp.1.1 hp.1.2 hp.2
     ·obtain rfl:=hex rfl
      obtain rfl:len=0:=by omega
      exact key _ _ hj rfl hp.1.1 hp.1.2 hp.2
    split at ha
    ·
     split at ha
     ·rename_i ki mm ys0 hE0
      obtain ⟨⟨h1,q⟩,hw,rfl⟩:=Option.map_eq_some_iff.1 ha
      simp only [andT_iff,decide_eq_true_eq] at hp
      obtain ⟨⟨⟨rfl,hrow⟩,hfit⟩,rfl⟩:=hp
      obtain ⟨ys,hys,hyl,hlen,hf⟩:=contS_sound (P:=P) R hcy hny hy hrow
      rw [Nat.mul_one] at hyl
      obtain ⟨us,hus,hyeq⟩:=hys
      rw [PR] at hus;subst hus
      rw [List.append_nil] at hyeq
      have hys0:∀n,n≤ny→n≤ys0.length→intsV ki (ys0.take n)=ys.take n:=fun n hn hn2=>by
       rw [hyeq, ←intsV_take]
       congr 1
       apply List.ext_getElem?
       intro j
       by_cases hj:j<n
       ·have hmm:j<mm:=by
         have:=congrArg List.length hyeq
         rw [hyl,intsV_length,lst_length] at this;omega
        rw [List.getElem?_take_of_lt hj,List.getElem?_take_of_lt hj,lst_get _ hmm,List.getD,List.getElem?_eq_getElem (by omega)];rfl
       ·rw [List.getElem?_take,if_neg hj,List.getElem?_take,if_neg hj]
      rcases hx with ⟨rfl,rfl,a,rfl⟩|⟨p,cap',a,hpp,rfl,haa,hcap,hex,hlc,hft⟩
      ·have h0:ny=0:=by omega
       subst h0
       have hrun:=run_append_fit (w:=w) (w':=w) (ty:=ty) (base:=a) (sLen:=0) (sCap:=0) (news:=[]) ht hu hd hi hlen (by have:=hf 0 (Nat.le_refl _);rw [hsz];simpa using this) (Nat.le_refl _) (by cases a with|none=>exact .inl ⟨rfl,rfl⟩|some a=>exact .inr ⟨a,rfl,rfl⟩)
       refine ⟨_,w,e,_,(by simp only [Sem.run_bind,hrun,Result.andThen_ok,Sem.run_pure];try rfl),.inl rfl,.inl ⟨rfl,rfl,a,rfl⟩,?_,EStep.refl _ _⟩
       rw [placeH_nil]
       exact writeI_zero R hw
      ·obtain ⟨w',hst,R'⟩:=writeI_sound (P:=P) R hw hpp
       have hnyl:ny≤ys0.length:=by
        obtain ⟨_,_,_,_,_,_,_,_,_,_,_,h⟩:=writeI_parts hw;exact h
       by_cases h0:ny=0
       ·subst h0
        have hrun:=run_append_fit (w:=w) (w':=w) (ty:=ty) (base:=some ⟨p.n,a,none⟩) (sLen:=len) (sCap:=cap') (news:=[]) ht hu hd hi hlen (by have:=hf 0 (Nat.le_refl _);rw [hsz];simpa using this) (by omega) (.inr ⟨_,rfl,rfl⟩)
        refine ⟨_,w,e,_,(by simp only [Sem.run_bind,hrun,Result.andThen_ok,Sem.run_pure];try rfl),.inl rfl,.inr ⟨p,cap',a,hpp,rfl,haa,hcap,hex,by omega,hft⟩,?_,EStep.refl _ _⟩
        rw [placeH_nil]
        exact writeI_zero R hw
       ·have ha2:=haa (by omega)
        have hadd:(⟨p.n,a,none⟩:Addr).add (len*i.size)=⟨p.n,p.base+(o+(ix+len)),none⟩:=by rw [addr_add,hsz,ha2];congr 1;omega
        have hrun:=run_append_fit (w:=w) (w':=w') (ty:=ty) (base:=some ⟨p.n,a,none⟩) (sLen:=len) (sCap:=cap') (news:=ys.take (ny*1)) ht hu hd hi hlen (by rw [hsz];exact hf ny (Nat.le_refl _)) (by omega)
         (.inr ⟨_,rfl,by rw [hadd,Nat.mul_one, ←hys0 ny (Nat.le_refl _) hnyl];exact hst⟩)
        refine ⟨_,w',e,_,(by simp only [Sem.run_bind,hrun,Result.andThen_ok,Sem.run_pure];try rfl),.inl rfl,.inr ⟨p,cap',a,hpp,rfl,haa,hcap,hex,by omega,hft⟩,?_,EStep.refl _ _⟩
        rw [placeH_nil]
        exact R'
     ·rename_i ki mm ys0 hE0
      split at ha
      case h_2=>cases ha
      obtain ⟨⟨h1,q⟩,hw,rfl⟩:=Option.map_eq_some_iff.1 ha
      simp only [andT_iff,decide_eq_true_eq] at hp
      obtain ⟨⟨⟨rfl,hrow⟩,hfit⟩,rfl⟩:=hp
      unfold extI at hw
      split at hw
      case h_2=>cases hw
      rename_i k' m xs0 hb
      split at hw
      case isFalse=>cases hw
      rename_i hkk
      subst hkk
      simp only [Option.some.injEq,Prod.mk.injEq,Bool.and_eq_true,decide_eq_true_eq] at hw
      obtain ⟨rfl,⟨hxl,hlm⟩,hyl0⟩:=hw
      subst hlm
      obtain ⟨ys,hys,hyl,hlen,hf⟩:=contS_sound (P:=P) R hcy hny hy hrow
      rw [Nat.mul_one] at hyl
      obtain ⟨us,hus,hyeq⟩:=hys
      rw [PR] at hus;subst hus
      rw [List.append_nil] at hyeq
      have hmm:mm=ny:=by
       have:=congrArg List.length hyeq
       rw [hyl,intsV_length,lst_length] at this;omega
      subst hmm
      rw [lst_eq hyl0] at hyeq
      have hff:(Builtin.firstCells i.size mm y').run P w= .ok ys.toArray w:=by
       have:=hf mm (Nat.le_refl _)
       rw [List.take_of_length_le (by omega)] at this
       rw [hsz];exact this
      have hpsz:psize [SV.ints k' len xs0]=len:=by simp [psize,psz]
      have hone:∀v∈ys,v.oneCell'=true:=fun v hv=>by
       rw [hyeq] at hv
       obtain ⟨n,_,rfl⟩:=List.mem_map.1 hv
       rfl
      rcases hx with ⟨rfl,rfl,a,rfl⟩|⟨p,cap',a,hpp,rfl,haa,hcap,hex,hlc,hft⟩
      ·have h0:mm=0:=by omega
       subst h0
       have hyn:ys=[]:=List.length_eq_zero_iff.1 (by omega)
       subst hyn
       have hrun:=run_append_fit (w:=w) (w':=w) (ty:=ty) (base:=a) (sLen:=0) (sCap:=0) (news:=[]) ht hu hd hi hlen hff (Nat.le_refl _) (by cases a with|none=>exact .inl ⟨rfl,rfl⟩|some a=>exact .inr ⟨a,rfl,rfl⟩)
       refine ⟨_,w,e,_,(by simp only [Sem.run_bind,hrun,Result.andThen_ok,Sem.run_pure];try rfl),.inl rfl,.inl ⟨rfl,rfl,a,rfl⟩,?_,EStep.refl _ _⟩
       rw [placeH_nil]
       have hxn:xs0=[]:=List.length_eq_zero_iff.1 hxl
       have hy0:ys0=[]:=List.length_eq_zero_iff.1 hyl0
       subst hxn hy0
       exact R.same hb (fun _ g=>g) rfl
      ·obtain ⟨c,t,hcell,hsz2,hpsz2,hpr⟩:=R.block hpp hb
       by_cases hc0:cap'=0
       ·have hl0:len=0:=by omega
        have h0:mm=0:=by omega
        subst hc0 hl0 h0
        have hyn:ys=[]:=List.length_eq_zero_iff.1 (by omega)
        subst hyn
        have hrun:=run_append_fit (w:=w) (w':=w) (ty:=ty) (base:=some ⟨p.n,a,none⟩) (sLen:=0) (sCap:=0) (news:=[]) ht hu hd hi hlen hff (Nat.le_refl _) (.inr ⟨_,rfl,rfl⟩)
        refine ⟨_,w,e,_,(by simp only [Sem.run_bind,hrun,Result.andThen_ok,Sem.run_pure];try rfl),.inl rfl,.inl ⟨rfl,by omega,_,rfl⟩,?_,EStep.refl _ _⟩
        rw [placeH_nil]
        have hxn:xs0=[]:=List.length_eq_zero_iff.1 hxl
        have hy0:ys0=[]:=List.length_eq_zero_iff.1 hyl0
        subst hxn hy0
        exact R.same hb (fun _ g=>g) rfl
       ·have ha2:=haa hc0
        have hft2:=hft hc0
        obtain ⟨zs,hzn,hpe⟩:=hpr
        rw [PR] at hzn;subst hzn
        rw [List.append_nil,lst_eq hxl] at hpe
        have hnew:psize [SV.ints k' (len+mm) (xs0++ys0)]=len+mm:=by simp [psize,psz]
        obtain ⟨w',hst,R'⟩:=R.storeExt (P:=P) (ps:=[SV.ints k' len xs0]) hpp hcell hsz2 ys [SV.ints k' (len+mm) (xs0++ys0)] (by rw [hpsz];omega) (by rw [hnew,hpsz];omega) hone
         ⟨[],rfl,by rw [hpe,hyeq,lst_eq (by rw [List.length_append];omega),intsV_append,List.append_nil]⟩
        have hadd:(⟨p.n,a,none⟩:Addr).add (len*i.size)=⟨p.n,p.base+psize [SV.ints k' len xs0],none⟩:=by rw [addr_add,hsz,ha2,hpsz];congr 1;omega
        have hrun:=run_append_fit (w:=w) (w':=w') (ty:=ty) (base:=some ⟨p.n,a,none⟩) (sLen:=len) (sCap:=cap') (news:=ys) ht hu hd hi hlen hff (by omega) (.inr ⟨_,rfl,by rw [hadd];exact hst⟩)
        refine ⟨_,w',e,_,(by simp only [Sem.run_bind,hrun,Result.andThen_ok,Sem.run_pure];try rfl),.inl rfl,.inr ⟨p,cap',a,hpp,rfl,haa,hcap,hex,by omega,hft⟩,?_,EStep.refl _ _⟩
        rw [placeH_nil]
        exact R'
     ·cases ha
    ·
     split at ha
     ·rename_i cx px hcx
      split at ha
      ·rename_i hc
       simp only [Bool.and_eq_true,decide_eq_true_eq] at hc
       obtain ⟨⟨⟨hkb,rfl⟩,hokp⟩,hno⟩:=hc
       cases ha
       simp only [andT_iff,decide_eq_true_eq] at hp
       obtain ⟨⟨⟨⟨rfl,rfl⟩,hlx⟩,hrow⟩,hbig⟩:=hp
       have hB:B.e.r b=none:=by
        cases hq:B.e.r b with
        |none=>rfl
        |some p=>have:=hk b p hq;have:=Nat.le_of_ble_eq_true hkb;omega
       obtain ⟨ps,hb⟩:∃ps,h[b]? =some (.b ps):=by
        unfold contS at hcx
        simp only at hcx
        split at hcx
        ·rename_i ps hps;exact ⟨ps,hps⟩
        ·cases hcx
       obtain ⟨xs,hxs,hxl,hlenx,hfx⟩:=contS_sound (P:=P) (z:=z+1) R hcx (n:=len) rfl hx (by simp [isRowOK])
       obtain ⟨ys,hys,hyl,hlen,hf⟩:=contS_sound (P:=P) R hcy hny hy hrow
       have hjoin:=joinP_sound hxs hys hlx
       have hjs:psize (joinP cx cy)=(len+ny)*(z+1):=by
        have:=hjoin.length
        rw [List.length_append,hxl,hyl, ←Nat.add_mul] at this;exact this.symm
       have grow:∀(base:Option Addr) (sCap:Nat),x'= .slice base len sCap→sCap<len+ny→OpTo B e j ⟨.sl b 0 0 (z+1) (len+ny) (len+ny) false true,h.set b (.b (joinP cx cy)),[],some b,true⟩ ((do pure (.value (←Builtin.append_ #[sT,xT] ty #[x',y'])):Sem Next).run P w):=fun base sCap hx' hlt=>by
        subst hx'
        obtain ⟨xs2,hxs2,hxl2,_,hfx2⟩:=contS_sound (P:=P) (z:=z+1) (R.drawn (w.drawn+1)) hcx (n:=len) rfl hx (by simp [isRowOK])
        obtain ⟨ys2,hys2,hyl2,hlen2,hf2⟩:=contS_sound (P:=P) (R.drawn (w.drawn+1)) hcy hny hy hrow
        have hold:(Builtin.firstCells i.size len (.slice base len sCap)).run P w.drew= .ok xs2.toArray w.drew:=by
         have:=hfx2 len (Nat.le_refl _)
         rw [List.take_of_length_le (by omega), ←hsz] at this
         exact this
        have hnew:(Builtin.firstCells i.size ny y').run P w.drew= .ok ys2.toArray w.drew:=by
         have:=hf2 ny (Nat.le_refl _)
         rw [List.take_of_length_le (by omega), ←hsz] at this
         exact this
        have hbb:(len+ny)*i.bytes≤140737488355328:=by
         have:(len+ny)*i.bytes≤2^38*256:=Nat.mul_le_mul hbig hby
         omega
        have hrun:=run_append_grow' (w:=w) (ty:=ty) ht hu hd hi hz hlen hold hnew hlt (by omega) hbb
        have hge:len+ny≤grownCap w (len+ny) sCap el:=by unfold grownCap;simp [Question.cut]
        have hcells:(xs2++ys2++(Builtin.zeroCells zv.cells (grownCap w (len+ny) sCap el-(len+ny))).toList).length=grownCap w (len+ny) sCap el*(z+1):=by
         simp only [List.length_append,zeroCells_length,hzs,hyl2,hxl2, ←Nat.add_mul];congr 1;omega
        have hjoin2:=joinP_sound hxs2 hys2 hlx
        refine ⟨_,_,putR e b ⟨w.heap.size,0,grownCap w (len+ny) sCap el*(z+1)⟩,_,(by simp only [Sem.run_bind,hrun,Result.andThen_ok,Sem.run_pure];try rfl),.inl rfl,.inr ⟨_,grownCap w (len+ny) sCap el,0,putR_self,rfl,fun _=>by simp,hge,(fun q=>by cases q),hge,fun _=>by simp⟩,?_,⟨fun i p hi hpi=>?_,fun _ _ h=>h,Nat.le_refl _,rfl⟩⟩
        ·rw [placeH_nil]
         refine R.rebind hB hb hno rfl rfl rfl (by rw [World.size_alloc];exact Nat.le_succ _) (fun n hn _=>?_) (.inl (Nat.le_refl _)) (heap_alloc_new _ _) (by rw [Nat.zero_add, ←hcells];exact Nat.le_refl _) (by rw [hjs];exact Nat.mul_le_mul_right _ hge) ?_
         ·exact heap_alloc_old w.drew _ n hn
         ·simp only [List.drop_zero]
          rw [List.take_append_of_le_length (by rw [hjs,List.length_append,hxl2,hyl2, ←Nat.add_mul];exact Nat.le_refl _),List.take_of_length_le (by rw [hjs,List.length_append,hxl2,hyl2, ←Nat.add_mul];exact Nat.le_refl _)]
          exact hjoin2
        ·show (if i=b then _ else e.r i)=some p
         rw [if_neg (fun q=>hi (by rw [q]))];exact hpi
       rcases hx with ⟨rfl,rfl,a,rfl⟩|⟨p,cap',a,hpp,rfl,haa,hcap,hex,hlc,hft⟩
       ·by_cases h0:ny=0
        ·subst h0
         have hrun:=run_append_fit (w:=w) (w':=w) (ty:=ty) (base:=a) (sLen:=0) (sCap:=0) (news:=[]) ht hu hd hi hlen (by have:=hf 0 (Nat.le_refl _);rw [hsz];simpa using this) (Nat.le_refl _) (by cases a with|none=>exact .inl ⟨rfl,rfl⟩|some a=>exact .inr ⟨a,rfl,rfl⟩)
         refine ⟨_,w,e,_,(by simp only [Sem.run_bind,hrun,Result.andThen_ok,Sem.run_pure];try rfl),.inl rfl,.inl ⟨rfl,rfl,a,rfl⟩,?_,EStep.refl _ _⟩
         rw [placeH_nil]
         have hxn:xs=[]:=List.length_eq_zero_iff.1 (by rw [hxl];simp)
         have hyn:ys=[]:=List.length_eq_zero_iff.1 (by rw [hyl];simp)
         subst hxn hyn
         exact R.zero hb hjoin
        ·exact grow a 0 rfl (by omega)
       ·by_cases hroom:len+ny≤cap'
        ·have hoff:cap'≠0∨(len=0∧ny=0):=by omega
         obtain ⟨c,t,hcell,hsz2,hpsz,hpr⟩:=R.block hpp hb
         by_cases hc0:cap'=0
         ·have hl0:len=0:=by omega
          have hn0:ny=0:=by omega
          subst hc0 hl0 hn0
          have hrun:=run_append_fit (w:=w) (w':=w) (ty:=ty) (base:=some ⟨p.n,a,none⟩) (sLen:=0) (sCap:=0) (news:=[]) ht hu hd hi hlen (by have:=hf 0 (Nat.le_refl _);rw [hsz];simpa using this) (Nat.le_refl _) (.inr ⟨_,rfl,rfl⟩)
          refine ⟨_,w,e,_,(by simp only [Sem.run_bind,hrun,Result.andThen_ok,Sem.run_pure];try rfl),.inl rfl,.inl ⟨rfl,rfl,_,rfl⟩,?_,EStep.refl _ _⟩
          rw [placeH_nil]
          have hxn:xs=[]:=List.length_eq_zero_iff.1 (by rw [hxl];simp)
          have hyn:ys=[]:=List.length_eq_zero_iff.1 (by rw [hyl];simp)
          subst hxn hyn
          exact R.zero hb hjoin
         ·have ha2:=haa hc0
          have hft2:=hft hc0
          have hnews:ys.length=ny*(z+1):=hyl
          have hone:∀v∈ys,v.oneCell'=true:=cells_oneCell hys hokp
          have hmul:(len+ny)*(z+1)≤cap'*(z+1):=Nat.mul_le_mul_right _ hroom
          have hsplit:(len+ny)*(z+1)=len*(z+1)+ny*(z+1):=Nat.add_mul _ _ _
          have hst:=run_storeCells_at P p.n (a+len*(z+1)) t ys 0 c w hcell (by omega) hone
          simp only [Nat.add_zero] at hst
          have hrun:=run_append_fit (w:=w) (ty:=ty) (base:=some ⟨p.n,a,none⟩) (sLen:=len) (sCap:=cap') (news:=ys) ht hu hd hi hlen (by have:=hf ny (Nat.le_refl _);rw [hsz,this,List.take_of_length_le (by omega)]) hroom
           (.inr ⟨_,rfl,by rw [addr_add,hsz];exact hst⟩)
          have hxcells:xs=(c.toList.drop a).take (len*(z+1)):=by
           have h1:=hfx len (Nat.le_refl _)
           rw [run_first hcell (by omega),List.take_of_length_le (l:=xs) (by omega)] at h1
           have h2:((c.toList.drop a).take (len*(z+1))).toArray=xs.toArray:=(Result.ok.inj h1).1
           exact (congrArg Array.toList h2).symm
          refine ⟨_,_,putR e b ⟨p.n,a,cap'*(z+1)⟩,_,(by simp only [Sem.run_bind,hrun,Result.andThen_ok,Sem.run_pure];try rfl),.inl rfl,.inr ⟨_,cap',a,putR_self,rfl,fun _=>by simp,hroom,(fun q=>by cases q),hroom,fun _=>by simp⟩,?_,⟨fun i p hi hpi=>?_,fun _ _ h=>h,Nat.le_refl _,rfl⟩⟩
          ·rw [placeH_nil]
           refine R.rebind hB hb hno rfl rfl rfl (by simp [World.setRow]) (fun n hn hne=>setRow_other w p.n n _ (fun q=>hne p hpp q.symm)) (.inr ⟨p,hpp,rfl⟩) (setRow_heap w p.n c _ t (0,0) hcell) (by simp;omega) (by rw [hjs];exact hmul) ?_
           rw [hjs]
           have hgoal:((c.toList.take (a+len*(z+1))++ys++c.toList.drop (a+len*(z+1)+ys.length)).drop a).take ((len+ny)*(z+1))=xs++ys:=by
            rw [List.append_assoc,List.drop_append_of_le_length (by simp;omega),List.drop_take,Nat.add_sub_cancel_left, ←hxcells, ←List.append_assoc,
             List.take_append_of_le_length (by rw [List.length_append];omega),List.take_of_length_le (by rw [List.length_append];omega)]
           simp only []
           rw [hgoal]
           exact hjoin
          ·show (if i=b then _ else e.r i)=some _
           rw [if_neg (fun q=>hi (by rw [q]))];exact hpi
        ·exact grow _ cap' rfl (by omega)
      ·split at ha
       case isFalse=>cases ha
       rename_i hc2
       simp only [Bool.and_eq_true,decide_eq_true_eq] at hc2
       obtain ⟨rfl,rfl⟩:=hc2
       cases ha
       simp only [andT_iff,decide_eq_true_eq] at hp
       obtain ⟨⟨⟨⟨⟨rfl,rfl⟩,hlx⟩,hrow⟩,hbig⟩,hover⟩:=hp
       have hfree:=R.free (j:=j) (by rcases hj with g|g;exact .inl g;exact .inr (by simpa using g 0 (by simp)))
       have grow2:∀(base:Option Addr) (sCap:Nat),x'= .slice base len sCap→sCap<len+ny→OpTo B e j ⟨.sl j 0 0 (z+1) (len+ny) (len+ny) false true,h,[.b (joinP cx cy)],none,true⟩ ((do pure (.value (←Builtin.append_ #[sT,xT] ty #[x',y'])):Sem Next).run P w):=fun base sCap hx' hlt=>by
        subst hx'
        obtain ⟨xs2,hxs2,hxl2,_,hfx2⟩:=contS_sound (P:=P) (z:=z+1) (R.drawn (w.drawn+1)) hcx (n:=len) rfl hx (by simp [isRowOK])
        obtain ⟨ys0,_,_,hlen,_⟩:=contS_sound (P:=P) R hcy hny hy hrow
        obtain ⟨ys2,hys2,hyl2,hlen2,hf2⟩:=contS_sound (P:=P) (R.drawn (w.drawn+1)) hcy hny hy hrow
        have hold:(Builtin.firstCells i.size len (.slice base len sCap)).run P w.drew= .ok xs2.toArray w.drew:=by
         have:=hfx2 len (Nat.le_refl _)
         rw [List.take_of_length_le (by omega), ←hsz] at this
         exact this
        have hnew:(Builtin.firstCells i.size ny y').run P w.drew= .ok ys2.toArray w.drew:=by
         have:=hf2 ny (Nat.le_refl _)
         rw [List.take_of_length_le (by omega), ←hsz] at this
         exact this
        have hbb:(len+ny)*i.bytes≤140737488355328:=by
         have:(len+ny)*i.bytes≤2^38*256:=Nat.mul_le_mul hbig hby
         omega
        have hrun:=run_append_grow' (w:=w) (ty:=ty) ht hu hd hi hz hlen hold hnew hlt (by omega) hbb
        have hge:len+ny≤grownCap w (len+ny) sCap el:=by unfold grownCap;simp [Question.cut]
        have hcells:(xs2++ys2++(Builtin.zeroCells zv.cells (grownCap w (len+ny) sCap el-(len+ny))).toList).length=grownCap w (len+ny) sCap el*(z+1):=by
         simp only [List.length_append,zeroCells_length,hzs,hyl2,hxl2, ←Nat.add_mul];congr 1;omega
        have hjoin2:=joinP_sound hxs2 hys2 hlx
        have hl2:(xs2++ys2).length=psize (joinP cx cy):=hjoin2.length
        have hjs:psize (joinP cx cy)=(len+ny)*(z+1):=by
         rw [←hl2,List.length_append,hxl2,hyl2, ←Nat.add_mul]
        have R2:=(R.drawn (w.drawn+1)).make (j:=j) (t:=el) (ps:=joinP cx cy) (ys:=xs2++ys2++(Builtin.zeroCells zv.cells (grownCap w (len+ny) sCap el-(len+ny))).toList) (by simpa using hj)
         (by rw [List.take_append_of_le_length (Nat.le_of_eq hl2.symm),List.take_of_length_le (Nat.le_of_eq hl2)];exact hjoin2)
         (by rw [hcells,hjs];exact Nat.mul_le_mul_right _ hge)
        refine ⟨_,_,_,_,(by simp only [Sem.run_bind,hrun,Result.andThen_ok,Sem.run_pure];try rfl),.inl rfl,.inr ⟨_,grownCap w (len+ny) sCap el,0,putR_self,rfl,fun _=>by simp,hge,(fun q=>by cases q),hge,fun _=>?_⟩,R2,EStep.of_le (putR_le hfree) rfl _⟩
        show 0+0*(z+1)+grownCap w (len+ny) sCap el*(z+1)≤_
        rw [hcells];simp
       rcases hx with ⟨rfl,rfl,a,rfl⟩|⟨p,cap',a,hpp,rfl,haa,hcap,hex,hlc,hft⟩
       ·exact grow2 a 0 rfl hover
       ·exact grow2 _ cap' rfl (by rw [hex rfl];exact hover)
     ·cases ha
   ·rename_i b z' len cap ex
    split at ha
    ·rename_i hem
     cases ha
     simp only [andT_iff,decide_eq_true_eq] at hp
     have hem':ex=true∧cap=0:=by
      unfold emptyR at hem
      split at hem
      ·exact ⟨rfl,Nat.eq_of_beq_eq_true hem⟩
      ·cases hem
     obtain ⟨rfl,rfl⟩:=hem'
     rcases hx with ⟨_,_,a,rfl⟩|⟨p,cap',a,_,rfl,_,_,hex,hlc,_⟩
     ·exact (key a _ hj (by subst_vars;rfl) hp.1.1 hp.1.2 hp.2).val fun e v h=>rowV_of h
     ·obtain rfl:=hex rfl
      obtain rfl:len=0:=by omega
      exact (key _ _ hj rfl hp.1.1 hp.1.2 hp.2).val fun e v h=>rowV_of h
    ·split at ha
     ·rename_i zz n g hb
      split at ha
      ·rename_i hc
       simp only [Bool.and_eq_true,decide_eq_true_eq] at hc
       obtain ⟨⟨⟨⟨⟨hkb,rfl⟩,rfl⟩,hok2⟩,hcl⟩,hno⟩:=hc
       cases ha
       simp only [andT_iff,decide_eq_true_eq] at hp
       obtain ⟨⟨⟨rfl,hln⟩,hrow⟩,hbig⟩:=hp
       have Y:AppY P w sT xT ty el i zv y' 1 (fun ys=>PR e cy ys∧ys.length=1*(z+1)):={
        fit:=by
         obtain ⟨ys,hys,hyl,hlen,hf⟩:=contS_sound (P:=P) R hcy hny hy hrow
         exact ⟨ys,⟨hys,hyl⟩,fun base sLen sCap w' h1 h2=>run_append_fit ht hu hd hi hlen (by have:=hf 1 (Nat.le_refl _);rw [hsz,this,List.take_of_length_le (by omega)]) h1 h2⟩
        grow:=by
         obtain ⟨ys,hys,hyl,hlen,hf⟩:=contS_sound (P:=P) R hcy hny hy hrow
         obtain ⟨ys2,hys2,hyl2,hlen2,hf2⟩:=contS_sound (P:=P) (R.drawn (w.drawn+1)) hcy hny hy hrow
         refine ⟨ys2,⟨hys2,hyl2⟩,fun base sLen sCap olds h1 h2 h3=>?_⟩
         have hnew:(Builtin.firstCells i.size 1 y').run P w.drew= .ok ys2.toArray w.drew:=by
          have:=hf2 1 (Nat.le_refl _)
          rw [←hsz] at this hyl2
          rw [List.take_of_length_le (by omega)] at this
          exact this
         have hbb:(sLen+1)*i.bytes≤140737488355328:=by
          have:(sLen+1)*i.bytes≤2^38*256:=Nat.mul_le_mul h3 hby
          omega
         exact run_append_grow' ht hu hd hi hz hlen h1 hnew h2 (by omega) hbb}
       refine append_rsl (P:=P) R hk (Nat.le_of_ble_eq_true hkb) hsz hzs hx hb hln Y (fun ys hys=>⟨hys.2,one_cells hys.1 hok2⟩) hbig hno fun xs ys ⟨hys,hyl⟩ hxs hxl=>?_
       refine rows_more hxs hxl hyl (fun i hi g1=>?_) fun i hi=>?_
       ·rw [Nat.ble_eq_true_of_le (show i+1≤len by omega)]
        exact mergeP_t g1
       ·obtain rfl:i=0:=by omega
        rw [show Nat.ble (len+0+1) len=false from by
         cases hb:Nat.ble (len+0+1) len with
         |false=>rfl
         |true=>have:=Nat.le_of_ble_eq_true hb;omega]
        refine mergeP_f ?_
        rw [Nat.zero_mul,List.drop_zero,List.take_of_length_le (by omega)]
        exact hys.closed hcl
      ·cases ha
     ·cases ha
   ·cases ha
  ·cases ha
 ·cases ha
end
end Go.Sy
namespace Go.Sy
open Go
section
variable {P:Program} {e:Env} {B:Base} {h:List Blk} {w:World}
theorem copyS_sound (R:Rel B e h w) {dT sT ty:TypeId} {x y v:SV} {x' y':Value} {h':List Blk} (hc:copyS P h dT x y=some (h',v,true)) (hx:VR e x x') (hy:VR e y y'):
  ∃v' w',(Builtin.copy_ #[dT,sT] ty #[x',y']).run P w= .ok v' w'∧VR e v v'∧Rel B e h' w':=by
 unfold copyS at hc
 split at hc
 ·rename_i el b o i len cap ex wh k mm ys0 p ny ht hcy hny
  split at hc
  ·rename_i hs
   obtain ⟨⟨h1,q⟩,hw,h2⟩:=Option.map_eq_some_iff.1 hc
   simp only [Prod.mk.injEq,andT_iff] at h2
   obtain ⟨rfl,rfl,⟨rfl,hrow⟩,rfl⟩:=h2
   obtain ⟨ys,hys,hyl,hlen,hf⟩:=contS_sound (P:=P) R hcy hny hy hrow
   obtain ⟨us,hus,hyeq⟩:=hys
   rw [PR] at hus;subst hus
   rw [List.append_nil] at hyeq
   have hfc:=hf (Nat.min ny len) (Nat.min_le_left _ _)
   rw [Nat.mul_one] at hfc hyl
   obtain ⟨info,hi,hsz⟩:=szOf_info hs
   have hrun:∀(base:Option Addr) (cap:Nat) (w':World),x'= .slice base len cap→((base=none∧w'=w)∨∃a,base=some a∧(storeCells a (ys.take (Nat.min ny len)) 0).run P w= .ok () w')→
     (Builtin.copy_ #[dT,sT] ty #[x',y']).run P w= .ok (.int .i64 (Nat.min ny len)) w':=fun base cap w' hx' hst=>by
    subst hx'
    unfold Builtin.copy_
    simp only [List.getElem?_toArray,List.getElem?_cons_zero,List.getElem?_cons_succ,Sem.run_bind,run_underlying ht,Result.andThen_ok,hlen,szOf_run hs,hfc]
    rcases hst with ⟨rfl,rfl⟩|⟨a,rfl,hr⟩
    ·simp [goInt]
    ·simp [hr,goInt]
   rcases hx with ⟨rfl,rfl,a,hx'⟩|⟨pl,cap',a,hpp,hx',haa,hcap,hex,hlc,hft⟩
   ·have h0:Nat.min ny 0=0:=Nat.min_eq_right (Nat.zero_le _)
    rw [h0] at hw
    refine ⟨_,w,hrun a 0 w hx' ?_,rfl,writeI_zero R hw⟩
    cases a with
    |none=>exact .inl ⟨rfl,rfl⟩
    |some a=>exact .inr ⟨a,rfl,by rw [h0];rfl⟩
   ·by_cases h0:Nat.min ny len=0
    ·rw [h0] at hw
     exact ⟨_,w,hrun _ cap' w hx' (.inr ⟨_,rfl,by rw [h0];rfl⟩),by rw [h0];rfl,writeI_zero R hw⟩
    ·obtain ⟨w',hst,R'⟩:=writeI_sound (P:=P) R hw hpp
     have hle:Nat.min ny len≤len:=Nat.min_le_right _ _
     have ha2:=haa (by omega)
     refine ⟨_,w',hrun _ cap' w' hx' (.inr ⟨_,rfl,?_⟩),rfl,R'⟩
     obtain ⟨_,_,_,_,_,_,_,_,_,_,_,hnl⟩:=writeI_parts hw
     have hcells:intsV k (ys0.take (Nat.min ny len))=ys.take (Nat.min ny len):=by
      rw [hyeq, ←intsV_take]
      congr 1
      apply List.ext_getElem?
      intro j
      have hmm:mm=ny:=by
       have:=congrArg List.length hyeq
       rw [hyl,intsV_length,lst_length] at this;exact this.symm
      by_cases hj:j<Nat.min ny len
      ·have h1:Nat.min ny len≤ny:=Nat.min_le_left ny len
       rw [List.getElem?_take_of_lt hj,List.getElem?_take_of_lt hj,lst_get _ (by omega),List.getD,List.getElem?_eq_getElem (by omega)];rfl
      ·rw [List.getElem?_take,if_neg hj,List.getElem?_take,if_neg hj]
     rw [←hcells,ha2,Nat.mul_one]
     exact hst
  ·cases hc
 ·cases hc
theorem strOf_sound {xs:List Int} (h:u8R xs=true):strL (strOfNums xs)=xs:=by
 unfold strL strOfNums
 simp only [List.map_map]
 have:∀l:List Int,u8R l=true→l.map ((fun b:UInt8=>(b.toNat:Int)) ∘ fun n=>UInt8.ofNat n.toNat)=l:=by
  intro l
  induction l with
  |nil=>intro _;rfl
  |cons n l ih=>
   intro hl
   simp only [u8R,List.all_cons,Bool.and_eq_true,decide_eq_true_eq] at hl
   rw [List.map_cons,ih (by simpa [u8R] using hl.2)]
   congr 1
   show ((UInt8.ofNat n.toNat).toNat:Int)=n
   rw [UInt8.toNat_ofNat']
   omega
 exact this xs h
theorem bytesStr_sound (R:Rel B e h w) {src dst el:TypeId} {a:SV} {a':Value} {m:Nat} {xs:List Int} {n:Nat} (hs:P.underlying src=some (.slice el)) (hd:P.underlying dst=some .string) (he:isInt P el=some .u8)
  (hc:contS h a=some ([.ints .u8 m xs],true)) (hn:lenV a=some n) (hrow:isRowOK 1 a=true) (hsl:∀s,a≠.str s) (hl:xs.length=m) (hu:u8R xs=true) (ha:VR e a a'):
  (convert src dst a').run P w= .ok (.string (strOfNums xs)) w:=by
 obtain ⟨ys,hys,hyl,hlen,hf⟩:=contS_sound (P:=P) R hc hn ha hrow
 obtain ⟨us,hus,hyeq⟩:=hys
 rw [PR] at hus;subst hus
 rw [List.append_nil,lst_eq hl] at hyeq
 rw [Nat.mul_one] at hyl
 have hf':=hf n (Nat.le_refl _)
 rw [Nat.mul_one,List.take_of_length_le (by omega),hyeq] at hf'
 have he':=isInt_eq he
 rcases lenV_sound ha hn with ⟨ad,c,rfl⟩|⟨s,_,_,s',q⟩
 ·cases ad with
  |none=>
   have:xs=[]:=by
    simp [Builtin.firstCells] at hf'
    cases xs with
    |nil=>rfl
    |cons x xs=>simp [intsV] at hf'
   subst this
   rw [run_convert_bytes_nil w src el hs he' n c dst hd]
   rfl
  |some ad=>
   have hl2:(loadCells ad n).run P w= .ok (xs.map (Value.int .u8)).toArray w:=by
    simpa [Builtin.firstCells,intsV] using hf'
   rw [run_convert_bytes_string w src dst el _ n c hs he' hd,run_bytesToString w _ n c xs hl2,foldl_push_bytes]
   simp [strOfNums,ByteArray.empty,ByteArray.emptyWithCapacity]
   rfl
 ·exact absurd q (hsl s')
theorem strBytes_sound (R:Rel B e h w) {src dst el:TypeId} {s:ByteArray} (hs:(P.underlying src).isSome=true) (hd:P.underlying dst=some (.slice el)) (he:isInt P el=some .u8):
  ∃v' w' e',(convert src dst (.string s)).run P w= .ok v' w'∧VR e' (.ro true .u8 (strL s)) v'∧Rel B e' h w'∧EStep e e' none:=by
 obtain ⟨d,hsd⟩:=Option.isSome_iff_exists.1 hs
 have he':=isInt_eq he
 have hconv:(convert src dst (.string s)).run P w=(Conv.stringToBytes el s).run P w:=by
  cases d<;>simp [convert,run_underlying hsd,run_underlying hd,run_underlying he']
 let cap:=(Question.appendCap s.size 0 el).cut (w.tape w.drawn (.appendCap s.size 0 el))
 have hcap:s.size≤cap:=by simp [cap,Question.cut]
 let cells:Array Value:=(s.data.map fun b=>Value.int .u8 b.toNat)++Array.replicate (cap-s.size) (.int .u8 0)
 have hcs:cells.size=cap:=by
  have:s.data.size=s.size:=rfl
  simp [cells];omega
 have hch:(choose (.appendCap s.size 0 el)).run P w= .ok cap w.drew:=by simp [Question.forced,cap]
 let w1:World:=w.drew.alloc (.cells cells el)
 have hw1:w1.heap[w.heap.size]? =some (.cells cells el (0,0)):=heap_alloc_new _ _
 let w2:=w1.freeze ⟨w.heap.size,cells.size,none⟩ 1
 have hfz:w2.heap[w.heap.size]? =some (.cells cells el (cells.size,cells.size+1)):=by
  have hlt:w.heap.size<w1.heap.size:=(Array.getElem?_eq_some_iff.1 hw1).1
  have hv:w1.heap[w.heap.size]= .cells cells el (0,0):=(Array.getElem?_eq_some_iff.1 hw1).2
  simp only [w2,World.freeze]
  rw [if_neg (by omega)]
  simp only []
  rw [Array.getElem?_eq_getElem (by simpa using hlt),Array.getElem_modify]
  simp [hv]
 have hother:∀n,n<w.heap.size→w2.heap[n]? =w.heap[n]? :=fun n hn=>by
  simp only [w2,World.freeze]
  rw [if_neg (by omega)]
  simp only []
  rw [Array.getElem?_modify,if_neg (by omega)]
  exact heap_alloc_old w.drew _ n hn
 have hsize:w2.heap.size=w.heap.size+1:=by
  simp only [w2,World.freeze]
  rw [if_neg (by omega)]
  simp only [Array.size_modify]
  exact World.size_alloc _ _
 have hrun:(Conv.stringToBytes el s).run P w= .ok (.slice (some ⟨w.heap.size,0,none⟩) s.size cap) w2:=by
  unfold Conv.stringToBytes
  rw [Sem.run_bind,hch,Result.andThen_ok]
  simp only [Sem.run_bind,newRow,newObj]
  have hn:(Sem.new (.cells cells el) Sem.pure).run P w.drew= .ok w.heap.size w1:=rfl
  have hmk:(markStringish ⟨w.heap.size,0,none⟩).run P w1= .ok () w2:=by
   unfold markStringish
   simp only [Sem.run_bind]
   have:(shape w.heap.size).run P w1= .ok (some (el,cells.size)) w1:=by
    show Result.ok (w1.shape? w.heap.size) w1=_
    simp [World.shape?,hw1]
   rw [this]
   rfl
  rw [show (Sem.new (.cells ((s.data.map fun b=>Value.int .u8 b.toNat)++Array.replicate (cap-s.size) (.int .u8 0)) el) Sem.pure).run P w.drew= .ok w.heap.size w1 from rfl]
  simp only [Result.andThen_ok,Sem.run_pure,hmk]
 let e':Env:={e with z:=fun n=>if n=w.heap.size then some (cells,el,(cells.size,cells.size+1)) else e.z n}
 have hz0:e.z w.heap.size=none:=by
  cases hq:e.z w.heap.size with
  |none=>rfl
  |some x=>have:=R.zlt hq;omega
 have hle:Env.Le e e':=⟨fun _ _ h=>h,fun n o hn=>by
  show (if n=w.heap.size then _ else e.z n)=some o
  rw [if_neg (fun q=>by subst q;rw [hz0] at hn;cases hn)];exact hn,Nat.le_refl _⟩
 have hn0:e.n0≤w.heap.size:=by have:=R.n0;have:=R.n0le;have:=R.size;omega
 refine ⟨_,w2,e',by rw [hconv,hrun],.inr ⟨w.heap.size,0,cap,cells,el,_,by rw [strL_length],if_pos rfl,fun _=>hn0,?_,by rw [strL_length];exact hcap,by omega⟩,?_,EStep.of_le hle rfl _⟩
 ·have:cells.toList=intsV .u8 (strL s)++List.replicate (cap-s.size) (.int .u8 0):=by
   simp [cells,intsV,strL]
  rw [this,List.drop_zero,List.take_append_of_le_length (by rw [intsV_length];exact Nat.le_refl _),List.take_of_length_le (by rw [intsV_length];exact Nat.le_refl _)]
 ·exact {
   os:=R.os,tape:=R.tape,output:=R.output
   size:=by have:=R.size;omega
   inj:=R.inj,dom:=R.dom
   sep:=fun i p hi=>by
    show (if p.n=w.heap.size then _ else e.z p.n)=none
    rw [if_neg (by have:=R.lt hi;omega)];exact R.sep i p hi
   zok:=fun n c t fr hz=>by
    by_cases hn:n=w.heap.size
    ·subst hn
     have hz':(if w.heap.size=w.heap.size then some (cells,el,(cells.size,cells.size+1)) else e.z w.heap.size)=some (c,t,fr):=hz
     rw [if_pos rfl] at hz'
     cases hz'
     exact hfz
    ·have hz':(if n=w.heap.size then some (cells,el,(cells.size,cells.size+1)) else e.z n)=some (c,t,fr):=hz
     rw [if_neg hn] at hz'
     rw [hother n (R.zlt hz')];exact R.zok n c t fr hz'
   zfresh:=fun n x hz=>by
    by_cases hn:n=w.heap.size
    ·exact .inr (by have:=R.size;omega)
    ·have hz':(if n=w.heap.size then some (cells,el,(cells.size,cells.size+1)) else e.z n)=some x:=hz
     rw [if_neg hn] at hz'
     exact R.zfresh n x hz'
   glb:=fun g k xs hg=>(R.glb g k xs hg).imp fun c ⟨t,fr,h1,h2⟩=>⟨t,fr,hle.z _ _ h1,h2⟩
   news:=R.news,keepr:=R.keepr
   keepz:=fun n x hz=>hle.z n x (R.keepz n x hz)
   n0:=R.n0,n0le:=R.n0le
   blk:=fun i qs hi=>by
    rcases R.blk i qs hi with g|⟨p,o,g1,g2,g3⟩
    ·exact .inl g
    ·exact .inr ⟨p,o,g1,by rw [hother p.n (R.lt g1)];exact g2,g3.mono hle⟩
   gap:=fun i g hi=>⟨(R.gap i g hi).1,(R.gap i g hi).2.le (fun n o hn=>by rw [hother n (Array.getElem?_eq_some_iff.1 hn).1];exact hn) rfl hle⟩
   yi:=R.yi,yb:=R.yb
   old:=fun n hn hno hnl=>by rw [hother n (by have:=R.size;omega)];exact R.old n hn hno hnl
   win:=fun i p hi=>by
    obtain ⟨o,o',ho,ho',hso⟩:=R.win i p hi
    exact ⟨o,o',ho,by rw [hother p.n (R.lt (R.keepr i p hi))];exact ho',hso⟩
   kr:=R.kr,kle:=R.kle
   mks:=fun r hr=>by
    have:=R.mks r hr
    rw [hother r (Array.getElem?_eq_some_iff.1 this.1).1];exact this
   mnd:=R.mnd}
end
end Go.Sy
namespace Go.Sy
open Go
def wF (ro:Option Nat):Fence:={Fence.wide with round:=ro}
def CallOK (P:Program) (f:Fn) (args:Array Value) (w:World) (R:Value→World→Prop):Prop:=match f with
 | .func f=>(∃v w',(callFunc f args).run P w= .ok (.value v) w'∧R v w')∨
  ((callFunc f args).run P w= .ok (.enter f args) w∧Calls P f args w fun e w'=>∃v,e= .returned v∧R v w')
 | .yield l=>∃fn tmps asg body,(Instr.yield l args).run P w= .ok (.round l fn tmps asg body) w∧∀ro n,RoundIn (wF ro) n P l fn tmps asg body w fun e w'=>∃v,e= .returned v∧R v w'
 |_=>False
theorem CallOK.mono {P:Program} {f:Fn} {args:Array Value} {w:World} {R R':Value→World→Prop} (h:CallOK P f args w R) (hr:∀v w',R v w'→R' v w'):CallOK P f args w R':=by
 cases f with
 |func f=>
  rcases h with ⟨v,w',e,h⟩|⟨e,h⟩
  ·exact .inl ⟨v,w',e,hr _ _ h⟩
  ·refine .inr ⟨e,?_⟩
   intro cs
   obtain ⟨e,w',fr,⟨v,he,hv⟩,rest⟩:=h cs
   exact ⟨e,w',fr,⟨v,he,hr _ _ hv⟩,rest⟩
 |yield l=>
  obtain ⟨fn,tmps,asg,body,h1,h2⟩:=h
  exact ⟨fn,tmps,asg,body,h1,fun ro n=>RoundIn.mono (h2 ro n) fun e w' ⟨v,g1,g2⟩=>⟨v,g1,hr _ _ g2⟩⟩
 |_=>exact h.elim
def fnG (g:CallF):CallFn:=fun f vs h j=>match f with
 | .func f=>g f vs h j
 |_=>none
def GSound (P:Program) (G:CallFn):Prop:=
 ∀f vs h j v h' new,G f vs h j=some (v,h',new,true)→∀(B:Base) (e:Env) (w:World) (args:List Value),LR e vs args→Rel B e h w→Free h j new.length→
  CallOK P f ⟨args⟩ w fun v' w'=>∃e',VR e' v v'∧Rel B e' (placeH h' j new) w'∧EStep e e' none
theorem fenced_wF (P:Program) (ro:Option Nat) (m:Machine):m.fenced P (wF ro):=by
 intro g _
 exact ⟨fun h=>by simp [wF,Fence.wide] at h,.inl trivial,fun _ _=>trivial,fun _ h=>by simp [wF,Fence.wide] at h⟩
theorem stepsIn_wF {P:Program} {ro:Option Nat} {m m':Machine}:StepsIn (Machine.fenced P (wF ro)) P m m'↔Steps P m m':=
 ⟨StepsIn.steps,fun h=>(StepsIn.of_steps h).mono fun m _=>fenced_wF P ro m⟩
theorem callsIn_wF {ro:Option Nat} {n:Nat} {P:Program} {f:FuncId} {args:Array Value} {w:World} {R:Ending→World→Prop}:CallsIn (wF ro) n P f args w R↔Calls P f args w R:=by
 have hc:∀{m m':Machine} {e:Ending},ComesIn (Machine.fenced P (wF ro)) P m m' e↔Comes P m m' e:=fun {m m' e}=>by
  cases e with
  |returned v=>exact stepsIn_wF
  |panicked chain=>exact stepsIn_wF
  |outgrown=>exact Iff.rfl
 exact ⟨fun h cs=>let ⟨e,w',fr,r,s,x⟩:=h.2 cs (fun _ h=>by simp [wF,Fence.wide] at h);⟨e,w',fr,r,hc.1 s,x⟩,
  fun h=>⟨trivial,fun cs _=>let ⟨e,w',fr,r,s,x⟩:=h cs;⟨e,w',fr,r,hc.2 s,x⟩⟩⟩
def GSoundF (P:Program) (g:CallF):Prop:=
 ∀f vs h j v h' new,g f vs h j=some (v,h',new,true)→∀(B:Base) (e:Env) (w:World) (args:List Value),LR e vs args→Rel B e h w→Free h j new.length→
  CallOK P (.func f) ⟨args⟩ w fun v' w'=>∃e',VR e' v v'∧Rel B e' (placeH h' j new) w'∧EStep e e' none
section
variable {P:Program} {e:Env} {B:Base} {h:List Blk} {w:World}
theorem OpTo.value {j:Nat} {v:SV} {v':Value} {s:Sem Value} (R:Rel B e h w) (hr:s.run P w= .ok v' w) (hv:VR e v v'):OpTo B e j (.of h (v,true)) ((do pure (.value (←s)):Sem Next).run P w):=
 ⟨.value v',w,e,v',by simp [hr],.inl rfl,hv,by show Rel B e (placeH h j []) w;rw [placeH_nil];exact R,EStep.refl _ _⟩
theorem OpTo.ofVal {j:Nat} {v:SV} {v':Value} (R:Rel B e h w) (hv:VR e v v'):OpTo B e j (.of h (v,true)) ((pure (.value v'):Sem Next).run P w):=
 ⟨.value v',w,e,v',rfl,.inl rfl,hv,by show Rel B e (placeH h j []) w;rw [placeH_nil];exact R,EStep.refl _ _⟩
theorem OpTo.make {j:Nat} {v:SV} {v':Value} {ps:List SV} {ys:List Value} {el:TypeId} {s:Sem Value} {r:Res} (R:Rel B e h w) (hf:Free h j 1) (hl:PR e ps (ys.take (psize ps))) (hle:psize ps≤ys.length)
  (hr:s.run P w= .ok v' (w.alloc (.cells ⟨ys⟩ el))) (hv:VR (putR e j ⟨w.heap.size,0,ys.length⟩) v v') (h1:r.v=v) (h2:r.h=h) (h3:r.new=[.b ps]):OpTo B e j r ((do pure (.value (←s)):Sem Next).run P w):=by
 have hj:j=h.length∨h[j]? =some .gap:=hf.imp id fun g=>by simpa using g 0 (by omega)
 exact ⟨.value v',w.alloc (.cells ⟨ys⟩ el),putR e j ⟨w.heap.size,0,ys.length⟩,v',(by simp only [Sem.run_bind,hr,Result.andThen_ok,Sem.run_pure]),.inl rfl,(by rw [h1];exact hv),(by rw [h2,h3];exact R.make hf hl hle),EStep.of_le (putR_le (R.free hj)) rfl _⟩
theorem parts_sound {t:List (Option SV)} {t':List Value} {d:List Deferred} (h:TR e t t'):∀(ps:List (Nat×Operand)) (vs:List SV),evL t (ps.map (·.2))=some vs→
  VP e ((ps.map (·.1)).zip vs) (ps.map fun (i,x)=>(i,Act.eval ⟨⟨t'⟩,d⟩ x))
 | [],vs,_=>by simp [VP]
 |(i,x)::ps,vs,g=>by
  simp only [List.map_cons,evL] at g
  split at g
  ·rename_i v vs' hx hxs
   cases g
   exact ⟨_,_,ev_sound h hx,parts_sound h ps vs' hxs,rfl⟩
  ·cases g
theorem map_toArray (ps:Array (Nat×Operand)) (f:Operand→Value):(ps.map fun (i,x)=>(i,f x))=(ps.toList.map fun (i,x)=>(i,f x)).toArray:=by
 apply Array.ext'
 simp
theorem okParts_eq {v:SV} (h:(partsOf v).all (fun p=>one p||isI p)=true) (hn:notInts v=true):one v=true∨∃ps,v= .agg ps:=by
 by_cases ha:∃ps,v= .agg ps
 ·exact .inr ha
 ·left
  have h1:partsOf v=[v]:=by cases v<;>first|rfl|exact absurd ⟨_,rfl⟩ ha
  rw [h1] at h
  cases v<;>simp_all [one,isI,notInts]
theorem VR.notInts {v:SV} {v':Value} (h:VR e v v'):notInts v=true:=by cases v<;>first|rfl|exact h.elim
theorem VR.newSlice {j n z len cap size:Nat} {wh:Bool} (h1:cap*z≤size) (h2:len≤cap):VR (putR e j ⟨n,0,size⟩) (.sl j 0 0 z len cap true wh) (.slice (some ⟨n,0,none⟩) len cap):=by
 right
 refine ⟨⟨n,0,size⟩,cap,0,putR_self,rfl,fun _=>?_,Nat.le_refl _,fun _=>rfl,h2,fun _=>?_⟩
 ·simp
 ·simpa using h1
abbrev Ops (P:Program) (B:Base) (e:Env) (w:World) (j:Nat) (r:Res) (s:Sem Value):Prop:=OpTo B e j r ((do pure (.value (←s)):Sem Next).run P w)
variable {j:Nat} {t:List (Option SV)} {t':List Value} {d:List Deferred} {r:Res}
theorem op_alloc {el:TypeId} (R:Rel B e h w) (g:(zeroS P el).map (fun ps=>(⟨.ptr j 0 0,h,[.b ps],none,true⟩:Res))=some r) (hj:Free h j r.new.length):Ops P B e w j r (Instr.alloc el true (.tuple #[])):=by
 obtain ⟨ps,hz,rfl⟩:=Option.map_eq_some_iff.1 g
 obtain ⟨z,hz1,hz2⟩:=zeroS_sound (e:=e) hz
 have hlen:=hz2.length
 refine OpTo.make (v:=.ptr j 0 0) R hj (ps:=ps) (ys:=z.cells.toList) (el:=el) (by rw [List.take_of_length_le (by omega)];exact hz2) (by omega) (v':=.pointer (some ⟨w.heap.size,0,none⟩)) ?_ ⟨_,putR_self,rfl⟩ rfl rfl rfl
 simp [Instr.alloc,zeroOf_run hz1,newVar,newRow,newObj,Sem.run]
theorem op_box {el:TypeId} {x:Operand} (hl:TR e t t') (R:Rel B e h w) (g:(ev t x).map (fun v=>(⟨.ptr j 0 0,h,[.b (partsOf v)],none,(partsOf v).all fun p=>one p||isI p⟩:Res))=some r) (hp:r.p=true) (hj:Free h j r.new.length):Ops P B e w j r (Instr.box el (Act.eval ⟨⟨t'⟩,d⟩ x)):=by
 obtain ⟨v,hx,rfl⟩:=Option.map_eq_some_iff.1 g
 have hv:=ev_sound (d:=d) hl hx
 have hps:=hv.parts (okParts_eq hp hv.notInts)
 have hlen:=hps.length
 refine OpTo.make (v:=.ptr j 0 0) R hj (ps:=partsOf v) (ys:=(Act.eval ⟨⟨t'⟩,d⟩ x).cells.toList) (el:=el) (by rw [List.take_of_length_le (by omega)];exact hps) (by omega) (v':=.pointer (some ⟨w.heap.size,0,none⟩)) ?_ ⟨_,putR_self,rfl⟩ rfl rfl rfl
 simp [Instr.box,newVar,newRow,newObj,Sem.run]
theorem op_buildSlice {ty:TypeId} {len:Nat} {ps:Array (Nat×Operand)} {vs:List SV} (hl:TR e t t') (R:Rel B e h w) (hvs:evL t (ps.toList.map (·.2))=some vs) (g:(buildSliceS P ty len ((ps.toList.map (·.1)).zip vs)).map (fun q=>(⟨.sl j 0 0 q.2.1 len len true true,h,[.b q.1],none,q.2.2⟩:Res))=some r) (hp:r.p=true) (hj:Free h j r.new.length):
  Ops P B e w j r (Instr.buildSlice ty len (ps.map fun (i,x)=>(i,Act.eval ⟨⟨t'⟩,d⟩ x))):=by
 obtain ⟨⟨ps',z,q⟩,hb,rfl⟩:=Option.map_eq_some_iff.1 g
 simp only at hp;subst hp
 obtain ⟨el,ys,hr,hpr,hlen,hz⟩:=buildSliceS_sound (w:=w) hb (parts_sound (d:=d) hl ps.toList vs hvs)
 have hl2:=hpr.length
 rw [map_toArray]
 exact OpTo.make R hj (ps:=ps') (ys:=ys) (el:=el) (by rw [List.take_of_length_le (by omega)];exact hpr) (by omega) hr (VR.newSlice (Nat.le_of_eq hlen.symm) (Nat.le_refl _)) rfl rfl rfl
theorem op_makeSlice {ty:TypeId} {l c:Operand} {a b:SV} {wh:Bool} (hl:TR e t t') (R:Rel B e h w) (ha:ev t l=some a) (hb:ev t c=some b) (g:(makeSliceS P ty a b).map (fun q=>(⟨.sl j 0 0 q.2.1 q.2.2.1 q.2.2.2.1 true wh,h,[.b q.1],none,q.2.2.2.2⟩:Res))=some r) (hp:r.p=true) (hj:Free h j r.new.length):
  Ops P B e w j r (Instr.makeSlice ty (Act.eval ⟨⟨t'⟩,d⟩ l) (Act.eval ⟨⟨t'⟩,d⟩ c)):=by
 obtain ⟨⟨ps',z,n,m,q⟩,hm,rfl⟩:=Option.map_eq_some_iff.1 g
 simp only at hp;subst hp
 obtain ⟨el,ys,hr,hpr,hlen,hz,hnm⟩:=makeSliceS_sound (w:=w) hm (ev_sound (d:=d) hl ha) (ev_sound (d:=d) hl hb)
 have hl2:=hpr.length
 exact OpTo.make R hj (ps:=ps') (ys:=ys) (el:=el) (by rw [List.take_of_length_le (by omega)];exact hpr) (by omega) hr (VR.newSlice (Nat.le_of_eq hlen.symm) hnm) rfl rfl rfl
theorem op_nilCheck {x:Operand} (hl:TR e t t') (R:Rel B e h w) (g:(match ev t x with
  |some (.ptr b o i)=>some (.of h (.ptr b o i,true))
  |some (.rpi k xs i)=>some (.of h (.rpi k xs i,true))
  |some (.rpl f z l g e o i)=>some (.of h (.rpl f z l g e o i,true))
  |some (.rptr b z e o i)=>some (.of h (.rptr b z e o i,true))
  |some (.glb g i)=>some (.of h (.glb g i,true))
  |some (.fn (.func f) a b)=>some (.of h (.fn (.func f) a b,true))
  |_=>none)=some r):OpTo B e j r ((match Act.eval ⟨⟨t'⟩,d⟩ x with
  | .pointer none| .nilIface| .nilFunc=>runtimePanic .nilDeref
  | .func (.method name) first captured=>
   match (first[0]? :Option Value) with
   |some .nilIface=>runtimePanic .nilDeref
   |some (.iface t w)=>do
    if (←nilAhead ((←program).types.size+Made.depth) t w name) != some false then
     unsupported (.noEntry "op/nilCheck.the method's receiver behind this interface value is a nil pointer, or cannot be seen to be none, and the arguments act or may panic (ledger 612)")
    pure (.value (.func (.method name) first captured))
   |_=>pure (.value (.func (.method name) first captured))
  |x=>pure (.value x):Sem Next).run P w):=by
 split at g
 ·rename_i hx
  cases g
  obtain ⟨p,hp,q⟩:=ev_sound (d:=d) hl hx
  rw [q]
  exact OpTo.ofVal R ⟨p,hp,rfl⟩
 ·rename_i hx
  cases g
  obtain ⟨n,o',c,tt,fr,q,h1,h2⟩:=ev_sound (d:=d) hl hx
  rw [q]
  exact OpTo.ofVal R ⟨n,o',c,tt,fr,rfl,h1,h2⟩
 ·rename_i hx
  cases g
  obtain ⟨n,o',c,tt,fr,q,h1,h2,h3⟩:=ev_sound (d:=d) hl hx
  rw [q]
  exact OpTo.ofVal R ⟨n,o',c,tt,fr,rfl,h1,h2,h3⟩
 ·rename_i hx
  cases g
  obtain ⟨p,hp,q⟩:=ev_sound (d:=d) hl hx
  rw [q]
  exact OpTo.ofVal R ⟨p,hp,rfl⟩
 ·rename_i gi ii hx
  cases g
  have q:=ev_sound (d:=d) hl hx
  rw [VR] at q
  rw [q]
  exact OpTo.ofVal R (by rw [VR])
 ·rename_i hx
  cases g
  obtain ⟨ys,us,h1,h2,q⟩:=ev_sound (d:=d) hl hx
  rw [q]
  exact OpTo.ofVal R ⟨ys,us,h1,h2,rfl⟩
 ·cases g
theorem op_binOp {op:BinOp} {T:TypeId} {x y:Operand} (hl:TR e t t') (R:Rel B e h w) (g:(match ev t x,ev t y with
  |some (.int k a),some (.int k' b)=>(binI op k a k' b).map (.of h)
  |some a,some b=>(eqS P op T x y a b).map (.of h)
  |_,_=>none)=some r) (hp:r.p=true):Ops P B e w j r (do eqGuard op T x y (Act.eval ⟨⟨t'⟩,d⟩ x) (Act.eval ⟨⟨t'⟩,d⟩ y);binOp op T (Act.eval ⟨⟨t'⟩,d⟩ x) (Act.eval ⟨⟨t'⟩,d⟩ y)):=by
 split at g
 ·rename_i k1 a k2 b hx hy
  obtain ⟨⟨v,q⟩,hb,rfl⟩:=Option.map_eq_some_iff.1 g
  simp only [Res.of] at hp;subst hp
  have h1:Act.eval ⟨⟨t'⟩,d⟩ x= .int k1 a:=ev_sound (d:=d) hl hx
  have h2:Act.eval ⟨⟨t'⟩,d⟩ y= .int k2 b:=ev_sound (d:=d) hl hy
  obtain ⟨v',hr,hv⟩:=binI_sound (P:=P) (e:=e) hb T x y w
  rw [h1,h2]
  exact OpTo.value R hr hv
 ·rename_i a b hne hx hy
  obtain ⟨⟨v,q⟩,hb,rfl⟩:=Option.map_eq_some_iff.1 g
  simp only [Res.of] at hp;subst hp
  obtain ⟨v',hr,hv⟩:=eqS_sound (P:=P) (w:=w) hb (ev_sound (d:=d) hl hx) (ev_sound (d:=d) hl hy)
  exact OpTo.value R hr hv
 ·cases g
theorem Rel.fix (R:Rel B e h w) {b:Nat} {q:Pl} {w':World} {c:Array Value} {t:TypeId} {fr:Nat×Nat} (hB:B.e.r b=none) (hq:e.r b=some q)
  (hno:noUseB b (h.set b .gap)=true) (hos:w'.os=w.os) (htape:w'.tape=w.tape) (hout:w'.output=w.output) (hsize:w.heap.size≤w'.heap.size)
  (hsame:∀n,n<w.heap.size→n≠q.n→w'.heap[n]? =w.heap[n]?) (hcell:w'.heap[q.n]? =some (.cells c t fr)):
  Rel B {e with r:=fun j=>if j=b then none else e.r j,z:=fun m=>if m=q.n then some (c,t,fr) else e.z m} (h.set b .gap) w':=by
 have hlt:=R.dom b q hq
 have hpz:e.z q.n=none:=R.sep b q hq
 have hnew:B.w.heap.size≤q.n:=by
  rcases R.news b q hq with g|g
  ·rw [hB] at g;cases g
  ·exact g
 have hnu:∀(i:Nat) (qs:List SV),(h.set b .gap)[i]? =some (.b qs)→usesL b qs=false:=fun i qs hi=>by
  have:=(List.all_eq_true.1 hno) (.b qs) (List.mem_of_getElem? hi)
  simpa using this
 have hnv:∀{i:Nat} (L:Lp),(h.set b .gap)[i]? =some (.g (some L))→∀v,some v∈L.t→uses b v=false:=fun {i} L hi v hv=>by
  have:=(List.all_eq_true.1 hno) (.g (some L)) (List.mem_of_getElem? hi)
  have:=(List.all_eq_true.1 this) (some v) hv
  simpa [noUseO] using this
 generalize he':({e with r:=fun j=>if j=b then none else e.r j,z:=fun m=>if m=q.n then some (c,t,fr) else e.z m}:Env)=e'
 have kr:∀j,e'.r j=if j=b then none else e.r j:=fun j=>by rw [←he']
 have kz:∀m,e'.z m=if m=q.n then some (c,t,fr) else e.z m:=fun m=>by rw [←he']
 have kn:e'.n0=e.n0:=by rw [←he']
 have km:e'.m=e.m:=by rw [←he']
 have ky:e'.y=e.y:=by rw [←he']
 have hr:∀j p,j≠b→e.r j=some p→e'.r j=some p:=fun j p hj hp=>by rw [kr,if_neg hj];exact hp
 have hr':∀j p,e'.r j=some p→j≠b∧e.r j=some p:=fun j p hp=>by
  rw [kr] at hp
  split at hp
  ·cases hp
  ·rename_i hj;exact ⟨hj,hp⟩
 have hz:∀n o,e.z n=some o→e'.z n=some o:=fun n o hn=>by
  rw [kz,if_neg (fun x=>by rw [x,hpz] at hn;cases hn)];exact hn
 have hkb:∀j p,B.e.r j=some p→j≠b:=fun j p hp x=>by rw [x,hB] at hp;cases hp
 have hne:∀(i:Nat) (p:Pl),i≠b→e.r i=some p→p.n≠q.n:=fun i p hi hp x=>hi (R.inj i b p q hp hq x)
 exact {
  os:=hos.trans R.os,tape:=htape.trans R.tape,output:=hout.trans R.output
  size:=Nat.le_trans R.size hsize
  inj:=fun i j p p' hi hj=>R.inj i j p p' (hr' i p hi).2 (hr' j p' hj).2
  dom:=fun i p hi=>by simpa using R.dom i p (hr' i p hi).2
  sep:=fun i p hi=>by
   obtain ⟨h1,h2⟩:=hr' i p hi
   rw [kz,if_neg (hne i p h1 h2)];exact R.sep i p h2
  zok:=fun n cc tt ff hn=>by
   rw [kz] at hn
   split at hn
   ·rename_i x;cases hn;rw [x];exact hcell
   ·rename_i x;rw [hsame n (R.zlt hn) x];exact R.zok n cc tt ff hn
  zfresh:=fun n x hn=>by
   rw [kz] at hn
   split at hn
   ·rename_i y;right;omega
   ·exact R.zfresh n x hn
  glb:=fun g k xs hg=>(R.glb g k xs hg).imp fun c ⟨t,fr,h1,h2⟩=>⟨t,fr,hz _ _ h1,h2⟩
  news:=fun i p hi=>R.news i p (hr' i p hi).2
  keepr:=fun i p hi=>hr i p (hkb i p hi) (R.keepr i p hi)
  keepz:=fun n x hn=>hz n x (R.keepz n x hn)
  n0:=by rw [kn];exact R.n0
  n0le:=R.n0le
  blk:=fun i qs hi=>by
   have hi0:=hi
   by_cases hbi:b=i
   ·subst hbi;rw [List.getElem?_set_self hlt] at hi;cases hi
   ·rw [List.getElem?_set_ne hbi] at hi
    rcases R.blk i qs hi with ⟨g1,g2⟩|⟨p,o,g1,g2,c',t',rfl,g3,g4,g5⟩
    ·exact .inl ⟨g1,by rw [kr,if_neg (Ne.symm hbi)];exact g2⟩
    ·refine .inr ⟨p,_,hr i p (Ne.symm hbi) g1,by rw [hsame p.n (R.lt g1) (hne i p (Ne.symm hbi) g1)];exact g2,c',t',rfl,g3,g4,?_⟩
     exact PR.mono' (e:=e) (e':=e') hz (by rw [kn];exact Nat.le_refl _) qs _ (fun j p hj hp=>hr j p (fun x=>by subst x;rw [hnu i qs hi0] at hj;cases hj) hp) g5
  gap:=fun i g hi=>by
   by_cases hbi:b=i
   ·subst hbi
    rw [List.getElem?_set_self hlt] at hi
    cases hi
    exact ⟨by rw [kr,if_pos rfl],trivial⟩
   ·have hi0:=hi
    rw [List.getElem?_set_ne hbi] at hi
    refine ⟨by rw [kr,if_neg (Ne.symm hbi)];exact (R.gap i g hi).1,(R.gap i g hi).2.keep (fun n o hn=>?_) (by rw [ky]) fun L hL v v' hm hv=>VR.mono' (e:=e) (e':=e') hz (by rw [kn];exact Nat.le_refl _) v v' (fun j p hj hp=>hr j p (fun x=>by subst x;subst hL;rw [hnv L hi0 v hm] at hj;cases hj) hp) hv⟩
    rw [hsame n (Array.getElem?_eq_some_iff.1 hn).1 fun x=>by
     subst x
     obtain ⟨c',t',h1,_⟩:=R.isCells hq
     rw [h1] at hn;cases hn]
    exact hn
  yi:=by rw [ky];exact R.yi
  yb:=by rw [ky];exact R.yb
  old:=fun n hn hno hnl=>by
   rw [hsame n (by have:=R.size;omega) (by omega)]
   exact R.old n hn hno hnl
  win:=fun i p hi=>by
   obtain ⟨o,o',ho,ho',hso⟩:=R.win i p hi
   exact ⟨o,o',ho,by rw [hsame p.n (R.lt (R.keepr i p hi)) (hne i p (hkb i p hi) (R.keepr i p hi))];exact ho',hso⟩
  kr:=R.kr
  kle:=by simpa using R.kle
  mks:=fun r hr=>by
   rw [km] at hr
   have:=R.mks r hr
   rw [hsame r (Array.getElem?_eq_some_iff.1 this.1).1 fun x=>by
    subst x
    obtain ⟨c',t',h1,_⟩:=R.isCells hq
    have h2:=this.1
    rw [h1] at h2;cases h2]
   exact this
  mnd:=by rw [km];exact R.mnd}
theorem op_constB {k:Nat} {dst:TypeId} {x:Operand} (hk:∀i p,B.e.r i=some p→i<k) (hl:TR e t t') (R:Rel B e h w) (g:constB P k h dst (ev t x)=some r) (hp:r.p=true):Ops P B e w j r (convert dst dst (Act.eval ⟨⟨t'⟩,d⟩ x)):=by
 unfold constB at g
 split at g
 case h_2=>cases g
 rename_i b n m hx
 split at g
 case h_2=>cases g
 rename_i el q xs hd hb
 split at g
 case h_2=>cases g
 rename_i hu hc
 cases g
 simp only [Bool.and_eq_true] at hc
 obtain ⟨⟨⟨hkb,hm⟩,hqn⟩,hno⟩:=hc
 have hkb:=Nat.le_of_ble_eq_true hkb
 have hm:=Nat.eq_of_beq_eq_true hm
 have hqn:=Nat.eq_of_beq_eq_true hqn
 subst hm hqn
 simp only [decide_eq_true_eq] at hp
 have hB:B.e.r b=none:=by
  cases hq:B.e.r b with
  |none=>rfl
  |some p=>have:=hk b p hq;omega
 have hv:=ev_sound (d:=d) hl hx
 rcases hv with ⟨h0,_⟩|⟨p,cap',a,q1,q2,q3,q4,q5,q6,q7⟩
 ·cases h0
 have q5:=q5 rfl
 subst q5
 have q3:=q3 (by omega)
 have q7:=q7 (by omega)
 rcases R.blk b _ hb with ⟨g1,_⟩|⟨p',o,g1,g2,c,t0,rfl,g3,g4,g5⟩
 ·simp [psize,psz] at g1
 rw [q1] at g1;cases g1
 have hcell:intsV .u8 xs=(c.toList.drop p.base).take xs.length:=by
  obtain ⟨zs,z1,z2⟩:=g5
  rw [PR] at z1;subst z1
  rw [List.append_nil, ←hp,lst_eq rfl] at z2
  rw [z2.symm]
  simp [psize,psz]
 have hn:psize [SV.ints .u8 (n+1) xs]=n+1:=by simp [psize,psz]
 rw [hn] at g4
 let w2:=w.freeze ⟨p.n,c.size,none⟩ 1
 have hfz:w2.heap[p.n]? =some (.cells c t0 (c.size,c.size+1)):=by
  have hlt:p.n<w.heap.size:=(Array.getElem?_eq_some_iff.1 g2).1
  have hvv:w.heap[p.n]= .cells c t0 (0,0):=(Array.getElem?_eq_some_iff.1 g2).2
  simp only [w2,World.freeze]
  rw [if_neg (by omega)]
  simp only []
  rw [Array.getElem?_eq_getElem (by simpa using hlt),Array.getElem_modify]
  simp [hvv]
 have hother:∀n,n<w.heap.size→n≠p.n→w2.heap[n]? =w.heap[n]? :=fun n hn hne=>by
  simp only [w2,World.freeze]
  rw [if_neg (by omega)]
  simp only []
  rw [Array.getElem?_modify,if_neg (Ne.symm hne)]
 have hsize:w2.heap.size=w.heap.size:=by
  simp only [w2,World.freeze]
  rw [if_neg (by omega)]
  simp only [Array.size_modify]
 have hfix:=R.fix (w':=w2) (c:=c) (t:=t0) (fr:=(c.size,c.size+1)) hB q1 hno (by simp only [w2,World.freeze];rw [if_neg (by omega)]) (by simp only [w2,World.freeze];rw [if_neg (by omega)]) (by simp only [w2,World.freeze];rw [if_neg (by omega)]) (by omega) hother hfz
 have hmk:(markStringish ⟨p.n,a,none⟩).run P w= .ok () w2:=by
  unfold markStringish
  simp only [Sem.run_bind]
  have:(shape p.n).run P w= .ok (some (t0,c.size)) w:=by
   show Result.ok (w.shape? p.n) w=_
   simp [World.shape?,g2]
  rw [this]
  rfl
 have hrun:(convert dst dst (.slice (some ⟨p.n,a,none⟩) (n+1) (n+1))).run P w= .ok (.slice (some ⟨p.n,a,none⟩) (n+1) (n+1)) w2:=by
  have he:=isInt_eq hu
  simp only [convert,Sem.run_bind,run_underlying hd,run_underlying he,Result.andThen_ok,beq_self_eq_true,hmk,Sem.run_pure]
 refine ⟨.value (.slice (some ⟨p.n,a,none⟩) (n+1) (n+1)),w2,{e with r:=fun j=>if j=b then none else e.r j,z:=fun m=>if m=p.n then some (c,t0,(c.size,c.size+1)) else e.z m},.slice (some ⟨p.n,a,none⟩) (n+1) (n+1),?_,.inl rfl,?_,by show Rel B _ (placeH (h.set b .gap) j []) w2;rw [placeH_nil];exact hfix,⟨fun i p' hi hpi=>?_,fun m o hmo=>?_,Nat.le_refl _,rfl⟩⟩
 ·rw [q2]
  simp only [Sem.run_bind,hrun,Result.andThen_ok,Sem.run_pure]
 ·refine .inr ⟨p.n,a,n+1,c,t0,(c.size,c.size+1),by rw [hp],if_pos rfl,fun _=>?_,?_,by omega,by omega⟩
  ·show e.n0≤p.n
   have:=R.n0;have:=R.n0le
   rcases R.news b p q1 with x|x
   ·rw [hB] at x;cases x
   ·omega
  ·rw [q3,hcell];simp
 ·show (if i=b then none else e.r i)=some p'
  rw [if_neg (fun x=>hi (by rw [x]))];exact hpi
 ·show (if m=p.n then _ else e.z m)=some o
  rw [if_neg (fun x=>by rw [x,R.sep b p q1] at hmo;cases hmo)];exact hmo
theorem op_convert {src dst:TypeId} {x:Operand} (hl:TR e t t') (R:Rel B e h w) (g:convR P h src dst (ev t x)=some r) (hp:r.p=true):Ops P B e w j r (convert src dst (Act.eval ⟨⟨t'⟩,d⟩ x)):=by
 unfold convR at g
 split at g
 ·rename_i xs hx
  split at g
  ·rename_i el hd
   split at g
   ·rename_i he hs1
    split at g
    ·rename_i dd hs
     cases g
     obtain ⟨s,hv,rfl⟩:=ev_sound (d:=d) hl hx
     obtain ⟨v',w',e',hr,hv',R',hst⟩:=strBytes_sound (P:=P) (s:=s) R (src:=src) (dst:=dst) (by simp [hs]) hd he
     refine ⟨.value v',w',e',v',?_,.inl rfl,hv',by show Rel B e' (placeH h j []) w';rw [placeH_nil];exact R',hst⟩
     rw [hv]
     simp only [Sem.run_bind,hr,Result.andThen_ok,Sem.run_pure]
    ·cases g
   ·cases g
  ·obtain ⟨v,hb,rfl⟩:=Option.map_eq_some_iff.1 g
   obtain ⟨v',hr,hv⟩:=convS_sound (P:=P) (w:=w) hb (ev_sound (d:=d) hl hx)
   exact OpTo.value R hr hv
 ·rename_i k1 n hx
  obtain ⟨v,hb,rfl⟩:=Option.map_eq_some_iff.1 g
  obtain ⟨v',hr,hv⟩:=convS_sound (P:=P) (w:=w) hb (ev_sound (d:=d) hl hx)
  exact OpTo.value R hr hv
 ·rename_i hx
  split at g
  ·rename_i el hs hd
   split at g
   ·rename_i he
    cases g
    have hv:Act.eval ⟨⟨t'⟩,d⟩ x= .slice none 0 0:=ev_sound (d:=d) hl hx
    rw [hv]
    exact OpTo.value R (run_convert_bytes_nil w src el hs (isInt_eq he) 0 0 dst hd) ⟨ByteArray.empty,rfl,rfl⟩
   ·cases g
  ·cases g
 ·rename_i a hns hni hnn hx
  split at g
  ·rename_i el m xs q n hs hd hcc hln
   split at g
   ·rename_i he
    cases g
    simp only [Res.of,andT_iff,Bool.and_eq_true,decide_eq_true_eq] at hp
    obtain ⟨⟨rfl,hrow,hlm⟩,hu⟩:=hp
    have hr:=bytesStr_sound (P:=P) R hs hd he hcc hln hrow (fun s q=>hns s (by rw [q])) hlm hu (ev_sound (d:=d) hl hx)
    have h2:=OpTo.value (j:=j) R hr (show VR e (.str xs) _ from ⟨_,rfl,(strOf_sound hu).symm⟩)
    have h3:andT (andT true (isRowOK 1 a&&decide (xs.length=m))) (u8R xs)=true:=by rw [hrow,hu,decide_eq_true hlm];rfl
    rw [h3];exact h2
   ·cases g
  ·cases g
 ·cases g
theorem op_toArray {arr:TypeId} {x:Operand} (hl:TR e t t') (R:Rel B e h w) (g:(match P.underlying arr,ev t x with
  |some (.array (n+1) e),some (.sl b o i 1 len _ _ _)=>match isInt P e with
   |some _=>some (Res.of h (.ptr b o i,decide (n+1≤len)))
   |none=>none
  |some (.array (n+1) e),some (.ro _ k xs)=>match isInt P e with
   |some _=>some (.of h (.rpi k xs 0,decide (n+1≤xs.length)))
   |none=>none
  |_,_=>none)=some r) (hp:r.p=true):Ops P B e w j r (Instr.arrayAt arr (Act.eval ⟨⟨t'⟩,d⟩ x)):=by
 split at g
 ·rename_i n el b o i len cap ex wh hu hx
  split at g
  ·cases g
   simp only [Res.of,decide_eq_true_eq] at hp
   rcases ev_sound (d:=d) hl hx with ⟨h0,_⟩|⟨p,cap',a,hp',hv,ha,_,_,hlc,_⟩
   ·omega
   ·have ha2:=ha (by omega)
    have hn:¬len<n+1:=by omega
    rw [hv]
    have hr:(Instr.arrayAt arr (.slice (some ⟨p.n,a,none⟩) len cap')).run P w= .ok (.pointer (some ⟨p.n,a,none⟩)) w:=by
     simp [Instr.arrayAt,run_underlying hu,hn]
    have:=OpTo.value (j:=j) (v:=.ptr b o i) R hr ⟨p,hp',by rw [ha2,Nat.mul_one]⟩
    have hd:decide (n+1≤len)=true:=decide_eq_true hp
    rw [hd];exact this
  ·cases g
 ·rename_i n el f k xs hu hx
  split at g
  ·cases g
   simp only [Res.of,decide_eq_true_eq] at hp
   rcases ev_sound (d:=d) hl hx with ⟨h0,_⟩|⟨n',o,cap,c,tt,fr,hv,hz,_,hq,_⟩
   ·subst h0;simp at hp
   ·have hn:¬xs.length<n+1:=by omega
    rw [hv]
    have hr:(Instr.arrayAt arr (.slice (some ⟨n',o,none⟩) xs.length cap)).run P w= .ok (.pointer (some ⟨n',o,none⟩)) w:=by
     simp [Instr.arrayAt,run_underlying hu,hn]
    have:=OpTo.value (j:=j) (v:=.rpi k xs 0) R hr ⟨n',o,c,tt,fr,rfl,hz,hq⟩
    have hd:decide (n+1≤xs.length)=true:=decide_eq_true hp
    rw [hd];exact this
  ·cases g
 ·cases g
theorem LR.map_eval (hl:TR e t t') {xs:Array Operand} {vs:List SV} (h:evL t xs.toList=some vs):LR e vs (xs.map (Act.eval ⟨⟨t'⟩,d⟩)).toList:=by
 rw [Array.toList_map];exact evL_sound hl h
theorem op_builtin {c:Call} {b:Builtin} {o:Oper} {args':Array Value} (hcal:c.callee= .builtin b) (ha:args'=c.args.map (Act.eval ⟨⟨t'⟩,d⟩)) (ho:o.op= .call c):
  (execOp (Act.eval ⟨⟨t'⟩,d⟩) o)=builtin b c.argTypes o.type (c.args.map fun| .const _=>true|_=>false) args':=by
 unfold execOp
 rw [ho]
 simp only [resolve,hcal]
 rw [ha]
 rfl
theorem opS_sound {G:CallFn} {inp:Tmp→Bool} {k:Nat} {o:Oper} (g:opS P G inp k t h j o=some r) (hp:r.p=true) (hc:∀c f,o.op= .call c→c.callee≠.value f) (hj:Free h j r.new.length)
  (hk:∀i p,B.e.r i=some p→i<k) (hl:TR e t t') (R:Rel B e h w):OpTo B e j r ((execOp (Act.eval ⟨⟨t'⟩,d⟩) o).run P w):=by
 have isCall:(∃c,o.op= .call c)∨∀c,o.op≠.call c:=by cases o.op<;>simp
 rcases isCall with ⟨c,hop⟩|hnc
 ·
  unfold opS at g
  rw [hop] at g
  simp only at g
  split at g
  ·rename_i f hcal;exact absurd hcal (hc c f hop)
  ·rename_i hcal
   split at g
   ·rename_i ty a hty ha
    obtain ⟨v,hb,rfl⟩:=Option.map_eq_some_iff.1 g
    obtain ⟨y,zs,hy,hz,q⟩:=LR.map_eval (d:=d) hl ha
    rw [LR] at hz;subst hz
    obtain ⟨v',hr,hv⟩:=lenS_sound (P:=P) (w:=w) (ty:=o.type) hb hy
    have h1:c.argTypes= #[ty]:=Array.ext' hty
    have h2: #[y]=c.args.map (Act.eval ⟨⟨t'⟩,d⟩):=by apply Array.ext';exact q.symm
    rw [op_builtin hcal h2 hop,h1]
    exact OpTo.value R hr hv
   ·cases g
  ·rename_i hcal
   split at g
   ·rename_i ty a hty ha
    obtain ⟨v,hb,rfl⟩:=Option.map_eq_some_iff.1 g
    obtain ⟨y,zs,hy,hz,q⟩:=LR.map_eval (d:=d) hl ha
    rw [LR] at hz;subst hz
    obtain ⟨v',hr,hv⟩:=capS_sound (P:=P) (w:=w) (ty:=o.type) hb hy
    have h1:c.argTypes= #[ty]:=Array.ext' hty
    have h2: #[y]=c.args.map (Act.eval ⟨⟨t'⟩,d⟩):=by apply Array.ext';exact q.symm
    rw [op_builtin hcal h2 hop,h1]
    exact OpTo.value R hr hv
   ·cases g
  ·rename_i hcal
   split at g
   ·rename_i kk a vs ha
    obtain ⟨n,hb,rfl⟩:=Option.map_eq_some_iff.1 g
    obtain ⟨y,zs,hy,hz,q⟩:=LR.map_eval (d:=d) hl ha
    rw [VR] at hy;subst hy
    have h2:(⟨.int kk a::zs⟩:Array Value)=c.args.map (Act.eval ⟨⟨t'⟩,d⟩):=by apply Array.ext';exact q.symm
    rw [op_builtin hcal h2 hop]
    exact OpTo.value (s:=Builtin.min_ c.argTypes o.type ⟨.int kk a::zs⟩) R (minI_sound hb hz) rfl
   ·cases g
  ·rename_i hcal
   split at g
   ·rename_i ty xt a b hty ha
    obtain ⟨y,zs,hy,hz,q⟩:=LR.map_eval (d:=d) hl ha
    obtain ⟨y2,zs2,hy2,hz2,q2⟩:=hz
    rw [LR] at hz2;subst hz2 q2
    have h1:c.argTypes= #[ty,xt]:=Array.ext' hty
    have h2: #[y,y2]=c.args.map (Act.eval ⟨⟨t'⟩,d⟩):=by apply Array.ext';exact q.symm
    rw [op_builtin hcal h2 hop,h1]
    exact appendS_sound R g hp hj hk hy hy2
   ·cases g
  ·rename_i hcal
   split at g
   ·rename_i ty xt a b hty ha
    obtain ⟨⟨h',v,pp⟩,hb,rfl⟩:=Option.map_eq_some_iff.1 g
    simp only at hp;subst hp
    obtain ⟨y,zs,hy,hz,q⟩:=LR.map_eval (d:=d) hl ha
    obtain ⟨y2,zs2,hy2,hz2,q2⟩:=hz
    rw [LR] at hz2;subst hz2 q2
    have h1:c.argTypes= #[ty,xt]:=Array.ext' hty
    have h2: #[y,y2]=c.args.map (Act.eval ⟨⟨t'⟩,d⟩):=by apply Array.ext';exact q.symm
    rw [op_builtin hcal h2 hop,h1]
    obtain ⟨v',w',hr,hv,R'⟩:=copyS_sound (P:=P) (sT:=xt) (ty:=o.type) R hb hy hy2
    refine ⟨.value v',w',e,v',?_,.inl rfl,hv,by rw [placeH_nil];exact R',EStep.refl _ _⟩
    show ((do pure (.value (←Builtin.copy_ #[ty,xt] o.type #[y,y2])):Sem Next)).run P w=_
    simp only [Sem.run_bind,hr,Result.andThen_ok,Sem.run_pure]
   ·cases g
  ·cases g
 unfold opS at g
 unfold execOp
 generalize o.op=op at g hnc ⊢
 cases op<;>simp only at g
 case move x=>
  obtain ⟨v,hx,rfl⟩:=Option.map_eq_some_iff.1 g
  exact OpTo.ofVal R (ev_sound hl hx)
 case assign x=>
  obtain ⟨v,hx,rfl⟩:=Option.map_eq_some_iff.1 g
  exact OpTo.ofVal R (ev_sound hl hx)
 case pick c a b=>
  split at g
  ·rename_i hcv
   obtain ⟨v,hx,rfl⟩:=Option.map_eq_some_iff.1 g
   have hb:Act.eval ⟨⟨t'⟩,d⟩ c= .bool true:=ev_sound (d:=d) hl hcv
   have:=OpTo.ofVal (P:=P) (j:=j) R (ev_sound (d:=d) hl hx)
   simpa [hb,asBool] using this
  ·rename_i hcv
   obtain ⟨v,hx,rfl⟩:=Option.map_eq_some_iff.1 g
   have hb:Act.eval ⟨⟨t'⟩,d⟩ c= .bool false:=ev_sound (d:=d) hl hcv
   have:=OpTo.ofVal (P:=P) (j:=j) R (ev_sound (d:=d) hl hx)
   simpa [hb,asBool] using this
  ·cases g
 case alloc el=>exact op_alloc R g hj
 case box el x=>exact op_box hl R g hp hj
 case build ty ps=>
  split at g
  ·rename_i vs hvs
   obtain ⟨⟨v,q⟩,hb,rfl⟩:=Option.map_eq_some_iff.1 g
   simp only [Res.of] at hp;subst hp
   obtain ⟨v',hr,hv⟩:=buildS_sound (w:=w) hb (parts_sound (d:=d) hl ps.toList vs hvs)
   exact OpTo.value (s:=Instr.build ty (ps.map fun (i,x)=>(i,Act.eval ⟨⟨t'⟩,d⟩ x))) R (by rw [map_toArray];exact hr) hv
  ·cases g
 case buildSlice ty len ps=>
  split at g
  ·rename_i vs hvs;exact op_buildSlice hl R hvs g hp hj
  ·cases g
 case makeSlice ty l c=>
  split at g
  ·rename_i a b ha hb;exact op_makeSlice hl R ha hb g hp hj
  ·cases g
 case load ty x=>
  split at g
  ·rename_i a hx
   obtain ⟨⟨v,q⟩,hb,rfl⟩:=Option.map_eq_some_iff.1 g
   simp only [Res.of] at hp;subst hp
   obtain ⟨ad,v',ha,hr,hv⟩:=loadS_sound (P:=P) R hb (ev_sound (d:=d) hl hx)
   exact OpTo.value (s:=Instr.loadAt ty (Act.eval ⟨⟨t'⟩,d⟩ x)) R (by rw [ha];simp [Instr.loadAt,Instr.sureAddr,hr]) hv
  ·cases g
 case store ty x y=>
  split at g
  ·rename_i a v hx hy
   obtain ⟨⟨h',q⟩,hb,rfl⟩:=Option.map_eq_some_iff.1 g
   simp only at hp;subst hp
   obtain ⟨ad,w',ha,hr,R'⟩:=storeS_sound (P:=P) R hb (ev_sound (d:=d) hl hx) (ev_sound (d:=d) hl hy)
   refine ⟨.skip,w',e,undef,?_,.inr ⟨rfl,rfl⟩,VR.empty,by rw [placeH_nil];exact R',EStep.refl _ _⟩
   show ((do Instr.storeAt ty (Act.eval ⟨⟨t'⟩,d⟩ x) (Act.eval ⟨⟨t'⟩,d⟩ y);pure .skip:Sem Next)).run P w=_
   rw [ha]
   simp [Instr.storeAt,Instr.sureAddr,hr]
  ·cases g
 case nilCheck x=>exact op_nilCheck hl R g
 case binOp op T x y T'=>exact op_binOp hl R g hp
 case unOp op T x=>
  split at g
  ·rename_i a hx
   obtain ⟨v,hb,rfl⟩:=Option.map_eq_some_iff.1 g
   obtain ⟨v',hr,hv⟩:=unS_sound (P:=P) (w:=w) hb (ev_sound (d:=d) hl hx)
   exact OpTo.value R hr hv
  ·cases g
 case convert src dst x=>
  split at g
  ·rename_i hsd
   obtain rfl:=Nat.eq_of_beq_eq_true hsd
   exact op_constB hk hl R g hp
  ·exact op_convert hl R g hp
 case sliceToArrayPointer arr x=>exact op_toArray hl R g hp
 case makeInterface ty x=>
  split at g
  ·cases g
  ·rename_i dd v hni hu hx
   split at g
   ·rename_i ho
    cases g
    have hr:(Instr.makeInterface ty (Act.eval ⟨⟨t'⟩,d⟩ x)).run P w= .ok (.iface ty (Act.eval ⟨⟨t'⟩,d⟩ x)) w:=by
     unfold Instr.makeInterface
     rw [Sem.run_bind,run_underlying hu,Result.andThen_ok]
     cases dd<;>first|exact (hni _ rfl).elim|rfl
    exact OpTo.value R hr ⟨_,ev_sound (d:=d) hl hx,rfl⟩
   ·cases g
  ·cases g
 case makeFunc fn first captured=>
  split at g
  ·rename_i a b ha hb
   cases g
   exact OpTo.value R (s:=Instr.makeFunc fn (first.map (Act.eval ⟨⟨t'⟩,d⟩)) (captured.map (Act.eval ⟨⟨t'⟩,d⟩))) rfl ⟨_,_,LR.map_eval (d:=d) hl ha,LR.map_eval (d:=d) hl hb,rfl⟩
  ·cases g
 case fieldAddr ty x i=>
  split at g
  ·rename_i a hx
   obtain ⟨v,hb,rfl⟩:=Option.map_eq_some_iff.1 g
   obtain ⟨v',hr,hv⟩:=fieldAddrS_sound (P:=P) (w:=w) hb (ev_sound (d:=d) hl hx)
   exact OpTo.value R hr hv
  ·cases g
 case field ty x i=>
  split at g
  ·rename_i a hx
   obtain ⟨⟨v,q⟩,hb,rfl⟩:=Option.map_eq_some_iff.1 g
   simp only [Res.of] at hp;subst hp
   obtain ⟨v',hr,hv⟩:=fieldS_sound (P:=P) (w:=w) hb (ev_sound (d:=d) hl hx)
   exact OpTo.value R hr hv
  ·cases g
 case indexAddr ty x i=>
  split at g
  ·rename_i a b hx hi
   obtain ⟨⟨v,q⟩,hb,rfl⟩:=Option.map_eq_some_iff.1 g
   simp only [Res.of] at hp;subst hp
   obtain ⟨v',hr,hv⟩:=indexAddrS_sound (P:=P) (w:=w) hb (ev_sound (d:=d) hl hx) (ev_sound (d:=d) hl hi)
   exact OpTo.value R hr hv
  ·cases g
 case index ty x i=>
  split at g
  ·rename_i a b hx hi
   obtain ⟨⟨v,q⟩,hb,rfl⟩:=Option.map_eq_some_iff.1 g
   simp only [Res.of] at hp;subst hp
   obtain ⟨v',hr,hv⟩:=indexS_sound (P:=P) (w:=w) hb (ev_sound (d:=d) hl hx) (ev_sound (d:=d) hl hi)
   exact OpTo.value R hr hv
  ·cases g
 case slice ty x lo hi mx=>
  split at g
  ·rename_i a l u m hx hlo hhi hmx
   split at g
   ·rename_i hz3
    obtain ⟨⟨v,q⟩,hb,rfl⟩:=Option.map_eq_some_iff.1 g
    simp only [Res.of] at hp;subst hp
    obtain ⟨v',hr,hv⟩:=slice0_sound (P:=P) R hz3 hlo hhi hmx hb (ev_sound (d:=d) hl hx) (evO_sound (d:=d) hl hlo) (evO_sound (d:=d) hl hhi) (evO_sound (d:=d) hl hmx)
    exact OpTo.value R hr hv
   obtain ⟨⟨v,q⟩,hb,rfl⟩:=Option.map_eq_some_iff.1 g
   simp only [Res.of] at hp;subst hp
   obtain ⟨v',hr,hv⟩:=sliceR_sound (P:=P) R hb (ev_sound (d:=d) hl hx) (evO_sound (d:=d) hl hlo) (evO_sound (d:=d) hl hhi) (evO_sound (d:=d) hl hmx)
   exact OpTo.value R hr hv
  ·cases g
 case typeAssert x xT asserted ok=>
  split at g
  ·rename_i a hx
   obtain ⟨v,hb,rfl⟩:=Option.map_eq_some_iff.1 g
   obtain ⟨v',hr,hv⟩:=assertS_sound (P:=P) (w:=w) (xT:=xT) hb (ev_sound (d:=d) hl hx)
   exact OpTo.value R hr hv
  ·cases g
 case extract x i=>
  split at g
  ·rename_i vs hx
   obtain ⟨v,hb,rfl⟩:=Option.map_eq_some_iff.1 g
   obtain ⟨ys,hys,q⟩:=ev_sound (d:=d) hl hx
   obtain ⟨y,hy,hv⟩:=hys.get hb
   exact OpTo.value (s:=Instr.extract (Act.eval ⟨⟨t'⟩,d⟩ x) i) (v':=y) R (by rw [q];simp [Instr.extract,hy]) hv
  ·cases g
 case call c=>exact absurd rfl (hnc c)
 all_goals cases g
end
end Go.Sy
namespace Go.Sy
open Go
section
variable {P:Program}
theorem oper_sound {G:CallFn} (hG:GSound P G) {inp:Tmp→Bool} {k j n:Nat} {ro:Option Nat} {t:List (Option SV)} {t':List Value} {h:List Blk} {r:Res} {o:Oper} (g:opS P G inp k t h j o=some r) (hp:r.p=true)
  {B:Base} {e:Env} {w:World} {d:List Deferred} (hj:Free h j r.new.length) (hk:∀i p,B.e.r i=some p→i<k) (hl:TR e t t') (R:Rel B e h w) {next:Act→World→Prop} {Q:Exit→Act→World→Prop}
  (hn:∀e' v' w',VR e' r.v v'→Rel B e' (placeH r.h j r.new) w'→EStep e e' r.kill→next (Act.put ⟨⟨t'⟩,d⟩ o.dst v') w'):o.wpIn (wF ro) n P ⟨⟨t'⟩,d⟩ w next Q:=by
 have hnd:∀c,o.op≠.defer c:=fun c hc=>by unfold opS at g;rw [hc] at g;cases g
 refine ⟨fun _ _=>trivial,?_⟩
 rw [Oper.semAt_eq _ _ _ hnd]
 by_cases hc:∃c f,o.op= .call c∧c.callee= .value f
 ·obtain ⟨c,f,hc,hcal⟩:=hc
  unfold opS at g
  rw [hc] at g
  simp only [hcal] at g
  split at g
  ·rename_i f' first capt vs hf hvs
   split at g
   case h_2=>cases g
   rename_i hyo
   obtain ⟨⟨v,h',new,q⟩,hg,rfl⟩:=Option.map_eq_some_iff.1 g
   simp only at hp;subst hp
   obtain ⟨ys,us,h1,h2,hfv⟩:=ev_sound (d:=d) hl hf
   have hargs:=(h1.append (evL_sound (d:=d) hl hvs)).append h2
   have hk:=hG f' _ h j v h' new hg B e w _ hargs R hj
   cases f' with
   |func f'=>
    have hexec:(execOp (Act.eval ⟨⟨t'⟩,d⟩) o).run P w=(callFunc f' ⟨ys++c.args.toList.map (Act.eval ⟨⟨t'⟩,d⟩)++us⟩).run P w:=by
     unfold execOp
     rw [hc]
     simp only [resolve,hcal,hfv,Deferred.ofValue,invoke,Sem.run_bind,Sem.run_pure,Result.andThen_ok]
     congr 2
     apply Array.ext'
     simp
    rw [hexec]
    rcases hk with ⟨v',w',hr,e',hv,R',hst⟩|⟨hr,hcalls⟩
    ·rw [hr]
     exact hn e' v' w' hv R' hst
    ·rw [hr]
     refine ⟨fun h=>by simp [wF,Fence.wide] at h,callsIn_wF.2 ?_⟩
     intro cs
     obtain ⟨x,w',fr,⟨v',rfl,e',hv,R',hst⟩,rest⟩:=hcalls cs
     exact ⟨.returned v',w',fr,hn e' v' w' hv R' hst,rest⟩
   |yield l=>
    obtain ⟨fn,tmps,asg,body,hy,hround⟩:=hk
    have hus:us=[]:=by
     simp only [yOK,List.isEmpty_iff] at hyo
     subst hyo;exact h2
    subst hus
    rw [List.append_nil] at hy
    have hexec:(execOp (Act.eval ⟨⟨t'⟩,d⟩) o).run P w=(Instr.yield l ⟨ys++c.args.toList.map (Act.eval ⟨⟨t'⟩,d⟩)⟩).run P w:=by
     unfold execOp
     rw [hc]
     simp only [resolve,hcal,hfv,Deferred.ofValue,invoke,Sem.run_bind,Sem.run_pure,Result.andThen_ok]
     congr 2
     apply Array.ext'
     simp
    rw [hexec,hy,Oper.uponIn_round]
    exact ⟨fun h=>by simp [wF,Fence.wide] at h,RoundIn.mono (hround ro _) fun x w' ⟨v',q,e',hv,R',hst⟩=>by subst q;exact hn e' v' w' hv R' hst⟩
   |_=>exact hk.elim
  ·cases g
 ·obtain ⟨nx,w',e',v',hr,hnx,hv,R',hst⟩:=opS_sound (d:=d) g hp (fun c f q q'=>hc ⟨c,f,q,q'⟩) hj hk hl R
  rw [hr]
  rcases hnx with rfl|⟨rfl,rfl⟩
  ·exact hn e' v' w' hv R' hst
  ·exact hn e' undef w' hv R' hst
theorem VR.bool' {e:Env} {x:SV} {b:Bool} (h:VR e x (.bool b)):x= .bool b∨x= .nl (.bool b):=by
 cases x with
 |bool c=>rw [VR] at h;cases h;exact .inl rfl
 |nl v=>rw [VR] at h;subst h;exact .inr rfl
 |int=>cases h
 |str=>obtain ⟨_,q,_⟩:=h;cases q
 |ints=>exact h.elim
 |ptr=>obtain ⟨_,_,q⟩:=h;cases q
 |sl=>rcases h with ⟨_,_,_,q⟩|⟨_,_,_,_,q,_⟩<;>cases q
 |ro=>rcases h with ⟨_,_,_,q,_⟩|⟨_,_,_,_,_,_,q,_⟩<;>cases q
 |rob=>rcases h with ⟨_,_,_,q,_⟩|⟨_,_,_,_,_,_,q,_⟩<;>cases q
 |rol=>rcases h with ⟨_,_,_,q,_⟩|⟨_,_,_,_,_,_,q,_⟩<;>cases q
 |rpi=>obtain ⟨_,_,_,_,_,q,_⟩:=h;cases q
 |rpb=>obtain ⟨_,_,_,_,_,q,_⟩:=h;cases q
 |rpl=>obtain ⟨_,_,_,_,_,q,_⟩:=h;cases q
 |agg=>obtain ⟨_,_,q⟩:=h;cases q
 |tup=>obtain ⟨_,_,q⟩:=h;cases q
 |iface=>obtain ⟨_,_,q⟩:=h;cases q
 |fn=>obtain ⟨_,_,_,_,q⟩:=h;cases q
 |rows=>exact h.elim
 |rsl=>rcases h with ⟨_,_,_,q⟩|⟨_,_,_,_,q,_⟩<;>cases q
 |rptr=>obtain ⟨_,_,q⟩:=h;cases q
 |mpv=>obtain ⟨_,_,q⟩:=h;cases q
 |glb=>rw [VR] at h;cases h
theorem wantS_sound {e:Env} {t:List (Option SV)} {t':List Value} (h:TR e t t') {ops:Array Oper} {o:Oper} {b:Bool} (g:wantS ops t o=some b):Region.wanted o (yielded ops ⟨t'⟩)=b:=by
 unfold wantS at g
 unfold Region.wanted
 split at g
 ·rename_i hg;rw [hg];cases g;rfl
 ·rename_i j want hg
  rw [hg]
  simp only []
  unfold yielded
  have hj:ops[j]? =ops.toList[j]? :=by simp
  rw [hj]
  split at g
  ·rename_i hd;rw [hd];cases g;rfl
  ·rename_i i hd
   rw [hd]
   simp only [Option.bind_some]
   have e2:(⟨t'⟩:Array Value)[i]? =t'[i]? :=by simp
   rw [e2]
   split at g
   ·rename_i hn
    cases g
    have:t'[i]? =none:=by rw [List.getElem?_eq_none_iff] at hn ⊢;rw [←h.1];exact hn
    rw [this]
    rfl
   ·cases g
   ·rename_i x hx
    cases g
    obtain ⟨v',hv',hv⟩:=h.get hx
    rw [VR] at hv;subst hv
    rw [hv']
    cases x<;>cases want<;>rfl
   ·cases g
   ·rename_i v hnb hnl hx
    cases g
    obtain ⟨v',hv',hv⟩:=h.get hx
    rw [hv']
    by_cases hb:∃b,v'= .bool b
    ·obtain ⟨b,rfl⟩:=hb
     rcases hv.bool' with q|q
     ·exact absurd q (hnb b)
     ·exact absurd q (hnl _)
    ·have n1:(match some v' with|some (.bool b)=>some b|_=>none:Option Bool)=none:=by
      cases v'<;>first|rfl|exact absurd ⟨_,rfl⟩ hb
     exact (congrArg (fun z:Option Bool=>z==some want) n1).trans rfl
theorem TR.put {e:Env} {t:List (Option SV)} {t':List Value} {d:List Deferred} {o:Option Tmp} {v:SV} {v':Value} (h:TR e t t') (g:VR e v v'):∃t'',Act.put ⟨⟨t'⟩,d⟩ o v'=⟨⟨t''⟩,d⟩∧TR e (putT t o v) t'':=by
 cases o with
 |none=>exact ⟨t',rfl,h⟩
 |some i=>exact ⟨t'.set i v',by simp [Act.put],h.set g i⟩
theorem takeS_eq {sym:Tmp→Option Bool} {d:Option Tmp} {v:SV} (h:(takeS sym d v).2=true):(takeS sym d v).1=v:=by
 unfold takeS at h ⊢
 split
 ·rfl
 ·split
  ·rfl
  ·rename_i b hb
   simp only [hb] at h
   split
   ·cases b<;>simp at h<;>rw [h]
   ·rfl
theorem fillH_length (h:List Blk):∀(new:List Blk) (j:Nat),(fillH h j new).length=h.length:=by
 intro new
 induction new generalizing h with
 |nil=>intro j;rfl
 |cons b bs ih=>intro j;rw [fillH,ih];simp
theorem fillH_get:∀(new:List Blk) (h:List Blk) (j i:Nat),(fillH h j new)[i]? =if j≤i∧i<j+new.length∧i<h.length then new[i-j]? else h[i]?
 | [],h,j,i=>by simp only [fillH,List.length_nil,Nat.add_zero];rw [if_neg (by omega)]
 |b::bs,h,j,i=>by
  rw [fillH,fillH_get bs (h.set j b) (j+1) i]
  simp only [List.length_set,List.length_cons]
  by_cases h1:j+1≤i∧i<j+1+bs.length∧i<h.length
  ·rw [if_pos h1,if_pos (by omega),show i-j=(i-(j+1))+1 by omega,List.getElem?_cons_succ]
  ·rw [if_neg h1]
   by_cases h2:i=j
   ·subst h2
    by_cases h3:i<h.length
    ·rw [List.getElem?_set_self h3,if_pos (by omega),Nat.sub_self];rfl
    ·rw [if_neg (by omega),List.getElem?_eq_none (by simp;omega),List.getElem?_eq_none (by omega)]
   ·rw [List.getElem?_set_ne (Ne.symm h2),if_neg (by omega)]
theorem stepI_ob {G:CallFn} {sym:Tmp→Option Bool} {inp:Tmp→Bool} {k:Nat} {ops:Array Oper} {o:Oper} {s s':St} (e:stepI P G sym inp k ops o s=some s') (h:s'.ob=true):s.ob=true:=by
 unfold stepI at e
 split at e
 ·split at e
  ·cases e;simp only [andT_iff] at h;exact h.1.1
  ·cases e
 ·cases e;exact h
 ·cases e
theorem runOps_ob {G:CallFn} {sym:Tmp→Option Bool} {inp:Tmp→Bool} {k:Nat} {ops:Array Oper}:∀(is:List Nat) (s s':St),runOps P G sym inp k ops is s=some s'→s'.ob=true→s.ob=true
 | [],s,s',e,h=>by simp only [runOps,Option.some.injEq] at e;subst e;exact h
 |i::is,s,s',e,h=>by
  simp only [runOps] at e
  split at e
  ·exact runOps_ob is s s' e h
  ·split at e
   ·rename_i s1 h1;exact stepI_ob h1 (runOps_ob is s1 s' e h)
   ·cases e
theorem wpOp_sound {G:CallFn} (hG:GSound P G) {sym:Tmp→Option Bool} {inp:Tmp→Bool} {k n:Nat} {ro:Option Nat} {ops:Array Oper} {o:Oper} {i:Nat} (hi:ops[i]? =some o) {s s':St} (g:stepI P G sym inp k ops o s=some s') (hob:s'.ob=true)
  {B:Base} {e:Env} {w:World} {t':List Value} {d:List Deferred} {Q:Exit→Act→World→Prop} {K:Act→World→Prop} (hk:∀i p,B.e.r i=some p→i<k) (hl:TR e s.t t') (R:Rel B e s.h w)
  (hK:∀e' w' t'',e'.m=e.m→TR e' s'.t t''→Rel B e' s'.h w'→K ⟨⟨t''⟩,d⟩ w'):wpOpIn (wF ro) n P ops Q i K ⟨⟨t'⟩,d⟩ w:=by
 unfold stepI at g
 unfold wpOpIn
 rw [hi]
 simp only []
 split at g
 ·rename_i hw
  rw [if_pos (wantS_sound hl hw)]
  split at g
  ·rename_i r hop
   cases g
   simp only [andT_iff] at hob
   refine oper_sound hG hop hob.1.2 (.inl rfl) hk hl R fun e' v' w' hv R' hst=>?_
   rw [takeS_eq hob.2] at hK
   obtain ⟨t'',q,hl'⟩:=TR.put (d:=d) (o:=o.dst) (hst.slots hl) hv
   rw [q]
   exact hK e' w' t'' hst.m hl' R'
  ·cases g
 ·rename_i hw
  cases g
  rw [if_neg (by rw [wantS_sound hl hw];simp)]
  obtain ⟨t'',q,hl'⟩:=TR.put (d:=d) (o:=o.dst) hl (VR.empty (e:=e))
  rw [q]
  exact ⟨fun _ _=>trivial,hK e w t'' rfl hl' R⟩
 ·cases g
end
end Go.Sy
namespace Go.Sy
open Go
def BLe (h h2:List Blk):Prop:=∀(i:Nat) (ps:List SV),h[i]? =some (.b ps)→h2[i]? =some (.b ps)
def PureC (pf:FuncId→Nat) (G:CallFn):Prop:=
 (∀f,pf f=0→∀vs h j v h' new p,G (.func f) vs h j=some (v,h',new,p)→h'=h∧∀h2,G (.func f) vs h2 j=some (v,h2,new,p))∧
 (∀f,pf f=1→∀vs h j v h' new p,G (.func f) vs h j=some (v,h',new,p)→h'=h∧∀h2,BLe h h2→G (.func f) vs h2 j=some (v,h2,new,p))
section
variable {P:Program}
theorem evL_congr {t t':List (Option SV)}:∀{xs:List Operand},(∀x∈xs,ev t x=ev t' x)→evL t xs=evL t' xs
 | [],_=>rfl
 |x::xs,h=>by simp only [evL,h x (by simp),evL_congr (xs:=xs) fun y hy=>h y (by simp [hy])]
theorem evO_congr {t t':List (Option SV)} {y:Option Operand} (hy:∀z,y=some z→ev t z=ev t' z):evO t y=evO t' y:=by
 cases y with
 |none=>rfl
 |some z=>simp only [evO,hy z rfl]
theorem opS_congr {G:CallFn} {inp:Tmp→Bool} {k j:Nat} {t t':List (Option SV)} {h:List Blk} (o:Oper) (e:∀x∈o.op.operands,ev t x=ev t' x):opS P G inp k t h j o=opS P G inp k t' h j o:=by
 unfold opS
 generalize o.op=op at e ⊢
 cases op<;>simp only [Op.operands] at e<;>simp only
 case build ty ps=>rw [evL_congr (t:=t) (t':=t') (xs:=ps.toList.map (·.2)) fun x hx=>e x (by simpa using hx)]
 case buildSlice ty len ps=>rw [evL_congr (t:=t) (t':=t') (xs:=ps.toList.map (·.2)) fun x hx=>e x (by simpa using hx)]
 case makeSlice ty l c=>rw [e l (by simp),e c (by simp)]
 case makeFunc fn a b=>rw [evL_congr (t:=t) (t':=t') (xs:=a.toList) fun x hx=>e x (by simp [Array.mem_toList_iff.1 hx]),evL_congr (t:=t) (t':=t') (xs:=b.toList) fun x hx=>e x (by simp [Array.mem_toList_iff.1 hx])]
 case slice ty x lo hi mx=>
  rw [e x (by simp),evO_congr (y:=lo) (fun z hz=>e z (by subst hz;simp)),evO_congr (y:=hi) (fun z hz=>e z (by subst hz;simp)),evO_congr (y:=mx) (fun z hz=>e z (by subst hz;simp))]
 case call c=>
  have h1:=evL_congr (t:=t) (t':=t') (xs:=c.args.toList) fun x hx=>e x (by simp [Call.operands,Array.mem_toList_iff.1 hx])
  have h2:∀f,c.callee= .value f→ev t f=ev t' f:=fun f hf=>e f (by simp [Call.operands,hf])
  rw [h1]
  cases hcal:c.callee with
  |value f=>simp only;rw [h2 f hcal]
  |invoke r m=>rfl
  |builtin b=>cases b<;>rfl
 case pick c a b=>rw [e c (by simp),e a (by simp),e b (by simp)]
 case store ty a v=>rw [e a (by simp),e v (by simp)]
 case binOp op T x y T'=>rw [e x (by simp),e y (by simp)]
 case indexAddr T x i=>rw [e x (by simp),e i (by simp)]
 case index T x i=>rw [e x (by simp),e i (by simp)]
 all_goals first
  |rfl
  |(rw [e _ (by simp)])
theorem ev_put {t:List (Option SV)} {d:Option Tmp} {v:SV} {x:Operand} (h:∀i,d=some i→x≠.tmp i):ev (putT t d v) x=ev t x:=by
 cases d with
 |none=>rfl
 |some i=>
  cases x with
  |tmp j=>
   have:i≠j:=fun q=>h i rfl (by rw [q])
   simp [ev,putT,List.getElem?_set_ne this]
  |_=>rfl
theorem wantS_put {ops:Array Oper} {o:Oper} {t:List (Option SV)} {d:Option Tmp} {v:SV} (h:∀i,d=some i→i ∉ o.looksAt ops):wantS ops (putT t d v) o=wantS ops t o:=by
 unfold wantS
 cases hg:o.guard with
 |none=>rfl
 |some g=>
  obtain ⟨j,b⟩:=g
  simp only []
  cases hd:(ops.toList[j]?).bind (·.dst) with
  |none=>rfl
  |some k=>
   simp only []
   cases d with
   |none=>rfl
   |some i=>
    have hj:ops[j]? =ops.toList[j]? :=by simp
    have:i≠k:=fun q=>h i rfl (by simp only [Oper.looksAt,hg,List.mem_append];right;rw [hj,hd,q];simp)
    simp [putT,List.getElem?_set_ne this]
theorem ev_puts {ops:Array Oper} {o:Oper} {t:List (Option SV)} {d:Option Tmp} {v:SV} (hn:∀i,d=some i→i ∉ o.looksAt ops):∀x∈o.op.operands,ev (putT t d v) x=ev t x:=by
 intro x hx
 apply ev_put
 intro i hi q
 subst q
 exact hn i hi (by simp only [Oper.looksAt,List.mem_append,List.mem_filterMap];exact .inl ⟨_,Array.mem_toList_iff.2 hx,rfl⟩)
theorem addrB_congr {t t':List (Option SV)} {o:Op} (e:∀x∈o.operands,ev t x=ev t' x):addrB t o=addrB t' o:=by
 cases o<;>simp only [addrB,Op.operands] at e ⊢ <;>rw [e _ (by simp)]
theorem putT_comm {t:List (Option SV)} {a b:Option Tmp} (u v:SV) (h:∀d,a=some d→b≠some d):putT (putT t a u) b v=putT (putT t b v) a u:=by
 cases a with
 |none=>rfl
 |some i=>
  cases b with
  |none=>rfl
  |some j=>
   have:i≠j:=fun q=>h i rfl (by rw [q])
   exact List.set_comm _ _ this
theorem opS_pure {Γ:Ctr} {G:CallFn} (hG:PureC Γ.pf G) {inp:Tmp→Bool} {k j:Nat} {t:List (Option SV)} {h:List Blk} {r:Res} {o:Oper} (hc:clsOf P Γ.pf o.op=0) (e:opS P G inp k t h j o=some r):
  r.h=h∧r.kill=none∧∀h2,opS P G inp k t h2 j o=some {r with h:=h2}:=by
 have ofOK:∀{α:Type} {x:Option α} {f:α→SV×Bool},x.map (fun a=>Res.of h (f a))=some r→r.h=h∧r.kill=none∧∀h2,x.map (fun a=>Res.of h2 (f a))=some {r with h:=h2}:=fun {α x f} hx=>by
  obtain ⟨a,ha,rfl⟩:=Option.map_eq_some_iff.1 hx
  exact ⟨rfl,rfl,fun h2=>by rw [ha];rfl⟩
 unfold opS at e ⊢
 generalize o.op=op at e hc ⊢
 cases op<;>simp only [clsOf] at hc<;>simp only at e ⊢
 case load=>cases hc
 case store=>cases hc
 case slice=>cases hc
 case convert src dst x=>
  cases hsd:Nat.beq src dst
  case true=>rw [hsd] at hc;cases hc
  simp only [hsd] at hc e ⊢
  have hcc:convC P src dst=false:=by
   split at hc
   ·cases hc
   ·assumption
  have hno:∀e,P.underlying src=some (.slice e)→P.underlying dst=some .string→False:=fun e h1 h2=>by
   unfold convC at hcc
   rw [h1,h2] at hcc
   cases hcc
  generalize ev t x=z at e
  unfold convR at e ⊢
  split at e
  ·split at e
   ·rename_i hd
    split at e
    ·split at e
     ·cases e;exact ⟨rfl,rfl,fun h2=>rfl⟩
     ·cases e
    ·cases e
   ·exact ofOK (f:=fun v=>(v,true)) e
  ·exact ofOK (f:=fun v=>(v,true)) e
  ·split at e
   ·rename_i h1 h2
    exact (hno _ h1 h2).elim
   ·cases e
  ·split at e
   ·rename_i h1 h2 _ _
    exact (hno _ h1 h2).elim
   ·cases e
  ·cases e
 case call c=>
  cases hcal:c.callee with
  |invoke rr m=>rw [hcal] at e;cases e
  |value f=>
   rw [hcal] at e hc
   simp only at e hc ⊢
   split at e
   ·rename_i f' first capt vs hf hvs
    split at e
    case h_2=>cases e
    obtain ⟨⟨v,h',new,q⟩,hg,rfl⟩:=Option.map_eq_some_iff.1 e
    cases f with
    |func g=>
     simp only [ev,Option.some.injEq,SV.fn.injEq] at hf
     obtain ⟨rfl,rfl,rfl⟩:=hf
     simp only at hc
     have h0:Γ.pf g=0:=by
      split at hc
      ·assumption
      ·cases hc
      ·cases hc
     obtain ⟨h1,h2⟩:=hG.1 g h0 _ _ _ _ _ _ _ hg
     exact ⟨h1,rfl,fun h3=>by rw [h2 h3];rfl⟩
    |_=>simp at hc
   ·cases e
  |builtin b=>
   rw [hcal] at e hc
   cases b<;>simp only at e hc ⊢
   case len=>
    split at e
    ·exact ofOK (f:=fun v=>(v,true)) e
    ·cases e
   case cap=>
    split at e
    ·exact ofOK (f:=fun v=>(v,true)) e
    ·cases e
   case min=>
    split at e
    ·exact ofOK (f:=fun n=>(_,true)) e
    ·cases e
   all_goals first|cases e|cases hc
 all_goals first
  |(cases e;done)
  |exact ofOK (f:=fun v=>(v,true)) e
  |exact ofOK (f:=fun q=>q) e
  |(obtain ⟨a,ha,rfl⟩:=Option.map_eq_some_iff.1 e;exact ⟨rfl,rfl,fun h2=>by rw [ha];rfl⟩)
  |(split at e<;>first
    |(cases e;done)
    |exact ofOK (f:=fun v=>(v,true)) e
    |exact ofOK (f:=fun q=>q) e
    |(cases e;exact ⟨rfl,rfl,fun h2=>rfl⟩)
    |(obtain ⟨a,ha,rfl⟩:=Option.map_eq_some_iff.1 e;exact ⟨rfl,rfl,fun h2=>by rw [ha];rfl⟩)
    |(split at e<;>first|(cases e;done)|(rename_i hif;cases e;exact ⟨rfl,rfl,fun h2=>by first|rfl|(rw [if_pos hif];rfl)⟩)))
theorem contS_h {h h2:List Blk} {a:SV} (hb:∀b,(match some a with|some (.sl b _ _ _ _ _ _ _)=>some b|some (.rsl b _ _ _ _)=>some b|_=>none)=some b→h2[b]? =h[b]?):contS h2 a=contS h a:=by
 cases a with
 |rsl b z len cap ex=>simp only [contS];rw [hb b rfl]
 |sl b o i z len cap ex wh=>simp only [contS];rw [hb b rfl]
 |nl v=>
  cases v with
  |slice a l c=>cases l<;>rfl
  |_=>rfl
 |_=>rfl
theorem convR_h {h h2:List Blk} {src dst:TypeId} {q:Option SV} {r:Res} (hh:∀a,q=some a→contS h2 a=contS h a) (e:convR P h src dst q=some r):
  r.h=h∧r.new=[]∧r.kill=none∧convR P h2 src dst q=some {r with h:=h2}:=by
 have of1:∀{α:Type} {x:Option α} {f:α→SV×Bool},x.map (fun a=>Res.of h (f a))=some r→r.h=h∧r.new=[]∧r.kill=none∧x.map (fun a=>Res.of h2 (f a))=some {r with h:=h2}:=fun {α x f} hx=>by
  obtain ⟨a,ha,rfl⟩:=Option.map_eq_some_iff.1 hx
  exact ⟨rfl,rfl,rfl,by rw [ha];rfl⟩
 unfold convR at e ⊢
 cases q with
 |none=>cases e
 |some a=>
  have ha:=hh a rfl
  split at e
  ·split at e
   ·split at e
    ·split at e
     ·cases e;exact ⟨rfl,rfl,rfl,rfl⟩
     ·cases e
    ·cases e
   ·exact of1 (f:=fun v=>(v,true)) e
  ·exact of1 (f:=fun v=>(v,true)) e
  ·split at e
   ·split at e
    ·cases e;exact ⟨rfl,rfl,rfl,rfl⟩
    ·cases e
   ·cases e
  ·rename_i heq
   cases heq
   rw [ha]
   split at e
   ·split at e
    ·cases e;exact ⟨rfl,rfl,rfl,rfl⟩
    ·cases e
   ·cases e
  ·cases e
theorem opS_load {pf:FuncId→Nat} {G:CallFn} {inp:Tmp→Bool} {k j:Nat} {t:List (Option SV)} {h:List Blk} {r:Res} {o:Oper} (hc:clsOf P pf o.op=1) (e:opS P G inp k t h j o=some r):
  r.h=h∧r.new=[]∧r.kill=none∧∀h2,(∀b,addrB t o.op=some b→h2[b]? =h[b]?)→opS P G inp k t h2 j o=some {r with h:=h2}:=by
 have ofOK:∀{x y:Option (SV×Bool)} {h2:List Blk},x.map (Res.of h)=some r→y=x→r.h=h∧y.map (Res.of h2)=some {r with h:=h2}:=fun {x y h2} hx hy=>by
  obtain ⟨a,ha,rfl⟩:=Option.map_eq_some_iff.1 hx
  exact ⟨rfl,by rw [hy,ha];rfl⟩
 have kn:∀{x:Option (SV×Bool)},x.map (Res.of h)=some r→r.new=[]∧r.kill=none:=fun {x} hx=>by
  obtain ⟨a,_,rfl⟩:=Option.map_eq_some_iff.1 hx
  exact ⟨rfl,rfl⟩
 unfold opS at e ⊢
 generalize o.op=op at e hc ⊢
 cases op<;>simp only [clsOf] at hc<;>simp only [addrB] at e ⊢
 case load ty x=>
  split at e
  ·rename_i a hx
   have hh:∀h2,(∀b,(match some a with|some (.ptr b _ _)=>some b|some (.rptr b _ _ _ _)=>some b|_=>none)=some b→h2[b]? =h[b]?)→loadS P ty h2 a=loadS P ty h a:=fun h2 hb=>by
    cases a with
    |ptr b o i=>simp only [loadS];rw [hb b rfl]
    |rptr b z e o i=>simp only [loadS];rw [hb b rfl]
    |_=>rfl
   refine ⟨(ofOK (h2:=h) e rfl).1,(kn e).1,(kn e).2,fun h2 hb=>(ofOK e (hh h2 ?_)).2⟩
   rw [hx] at hb;exact hb
  ·cases e
 case slice ty x lo hi mx=>
  split at e
  ·rename_i a l u m hx hlo hhi hmx
   have hh:∀h2,(∀b,(match some a with|some (.ptr b _ _)=>some b|some (.rptr b _ _ _ _)=>some b|_=>none)=some b→h2[b]? =h[b]?)→sliceS P ty h2 a l u m=sliceS P ty h a l u m:=fun h2 hb=>by
    unfold sliceS
    split
    ·rename_i b o i _
     rw [hb b rfl]
    all_goals rfl
   have hhR:∀h2,(∀b,(match some a with|some (.ptr b _ _)=>some b|some (.rptr b _ _ _ _)=>some b|_=>none)=some b→h2[b]? =h[b]?)→sliceR P ty h2 a l u m=sliceR P ty h a l u m:=fun h2 hb=>by
    unfold sliceR
    split
    ·rename_i b z len cap ex
     have hsl:sliceS P ty h2 (.sl b 0 0 z len cap ex false) none u m=sliceS P ty h (.sl b 0 0 z len cap ex false) none u m:=by
      unfold sliceS
      cases P.underlying ty with
      |none=>rfl
      |some d=>cases d<;>rfl
     cases l with
     |none=>simp only [hsl]
     |some _=>rfl
    ·exact hh h2 hb
   have hh0:∀h2,(∀b,(match some a with|some (.ptr b _ _)=>some b|some (.rptr b _ _ _ _)=>some b|_=>none)=some b→h2[b]? =h[b]?)→slice0 P ty h2 a l u m=slice0 P ty h a l u m:=fun h2 hb=>by
    cases a<;>first|rfl|exact hhR h2 hb|(simp only [slice0];split<;>first|rfl|exact hhR h2 hb)
   split at e
   ·refine ⟨(ofOK (h2:=h) e rfl).1,(kn e).1,(kn e).2,fun h2 hb=>(ofOK e (hh0 h2 ?_)).2⟩
    rw [hx] at hb;exact hb
   refine ⟨(ofOK (h2:=h) e rfl).1,(kn e).1,(kn e).2,fun h2 hb=>(ofOK e (hhR h2 ?_)).2⟩
   rw [hx] at hb;exact hb
  ·cases e
 case convert src dst x=>
  cases hsd:Nat.beq src dst
  case true=>rw [hsd] at hc;cases hc
  simp only [hsd] at hc e ⊢
  have c0:=convR_h (h2:=h) (fun _ _=>rfl) e
  refine ⟨c0.1,c0.2.1,c0.2.2.1,fun h2 hb=>(convR_h (h2:=h2) (fun a ha=>contS_h ?_) e).2.2.2⟩
  rw [ha] at hb;exact hb
 case call c=>
  exfalso
  split at hc
  ·split at hc<;>cases hc
  ·cases hc
  ·cases hc
  ·cases hc
  ·cases hc
 all_goals first|(cases hc;done)|(split at hc<;>first|(cases hc;done)|(split at hc<;>cases hc))
theorem opS_store {pf:FuncId→Nat} {G:CallFn} {inp:Tmp→Bool} {k j:Nat} {t:List (Option SV)} {h:List Blk} {r:Res} {o:Oper} (hc:clsOf P pf o.op=2) (e:opS P G inp k t h j o=some r):
  r.new=[]∧r.kill=none∧∃b ps ps',addrB t o.op=some b∧h[b]? =some (.b ps)∧r.h=h.set b (.b ps')∧∀h2,h2[b]? =h[b]? →opS P G inp k t h2 j o=some {r with h:=h2.set b (.b ps')}:=by
 unfold opS at e ⊢
 generalize o.op=op at e hc ⊢
 cases op<;>simp only [clsOf] at hc<;>simp only [addrB] at e ⊢
 case store ty x y=>
  split at e
  ·rename_i a v hx hy
   obtain ⟨⟨h',q⟩,hs,rfl⟩:=Option.map_eq_some_iff.1 e
   refine ⟨rfl,rfl,?_⟩
   rw [hx]
   cases a with
   |ptr b o i=>
    unfold storeS at hs
    simp only at hs
    cases hb:h[b]? with
    |none=>rw [hb] at hs;cases hs
    |some bl=>
     cases bl with
     |g _=>rw [hb] at hs;cases hs
     |b ps=>
      rw [hb] at hs
      simp only at hs
      split at hs
      ·rename_i hagg
       split at hs
       ·rename_i q' n' hsz
        split at hs
        ·rename_i hcd
         obtain ⟨ps',hp,h3⟩:=Option.map_eq_some_iff.1 hs
         simp only [Prod.mk.injEq] at h3
         obtain ⟨rfl,rfl⟩:=h3
         refine ⟨b,ps,ps',rfl,hb,rfl,fun h2 h2b=>?_⟩
         have:storeS P ty h2 (.agg q') (.ptr b o 0)=some (h2.set b (.b ps'),true):=by
          unfold storeS
          simp only [h2b,hb,hagg,hsz,hcd,if_true,hp,Option.map_some]
         rw [this];rfl
        ·cases hs
       ·cases hs
      ·rename_i hagg
       split at hs
       ·rename_i hcd
        obtain ⟨q',hp,h3⟩:=Option.map_eq_some_iff.1 hs
        simp only [Prod.mk.injEq] at h3
        obtain ⟨rfl,rfl⟩:=h3
        refine ⟨b,ps,q'.1,rfl,hb,rfl,fun h2 h2b=>?_⟩
        have:storeS P ty h2 v (.ptr b o i)=some (h2.set b (.b q'.1),q'.2):=by
         unfold storeS
         simp only [h2b,hb,hagg,hcd,if_true,hp,Option.map_some]
        rw [this];rfl
       ·cases hs
      ·cases hs
   |rptr b z el o i=>
    unfold storeS at hs
    simp only at hs
    split at hs
    ·rename_i z' n g hb
     split at hs
     ·rename_i hz hagg
      split at hs
      ·rename_i q' n' hsz
       split at hs
       ·rename_i hcd
        obtain ⟨ps',hp,h3⟩:=Option.map_eq_some_iff.1 hs
        simp only [Prod.mk.injEq] at h3
        obtain ⟨rfl,rfl⟩:=h3
        refine ⟨b,_,[.rows z n fun i=>mergeP (Nat.beq i el) ps' (g i)],rfl,hb,rfl,fun h2 h2b=>?_⟩
        have:storeS P ty h2 (.agg q') (.rptr b z el o 0)=some (h2.set b (.b [.rows z n fun i=>mergeP (Nat.beq i el) ps' (g i)]),decide (el<n)):=by
         unfold storeS
         simp only [h2b,hb,hz,hagg,hsz,hcd,if_true,hp,Option.map_some]
        rw [this];rfl
       ·cases hs
      ·cases hs
     ·rename_i hz hagg
      split at hs
      ·rename_i hcd
       obtain ⟨q',hp,h3⟩:=Option.map_eq_some_iff.1 hs
       simp only [Prod.mk.injEq] at h3
       obtain ⟨rfl,rfl⟩:=h3
       refine ⟨b,_,[.rows z n fun i=>mergeP (Nat.beq i el) q'.1 (g i)],rfl,hb,rfl,fun h2 h2b=>?_⟩
       have:storeS P ty h2 v (.rptr b z el o i)=some (h2.set b (.b [.rows z n fun i=>mergeP (Nat.beq i el) q'.1 (g i)]),q'.2&&decide (el<n)):=by
        unfold storeS
        simp only [h2b,hb,hz,hagg,hcd,if_true,hp,Option.map_some]
       rw [this];rfl
      ·cases hs
     ·cases hs
    ·cases hs
   |_=>simp [storeS] at hs
  ·cases e
 case call c=>
  exfalso
  split at hc
  ·split at hc<;>cases hc
  ·cases hc
  ·cases hc
  ·cases hc
  ·cases hc
 all_goals first|(cases hc;done)|(split at hc<;>first|(cases hc;done)|(split at hc<;>cases hc))
theorem opS_read {Γ:Ctr} {G:CallFn} (hG:PureC Γ.pf G) {inp:Tmp→Bool} {k j:Nat} {t:List (Option SV)} {h:List Blk} {r:Res} {o:Oper} (hc:clsOf P Γ.pf o.op=4) (e:opS P G inp k t h j o=some r):r.h=h∧∀h2,BLe h h2→opS P G inp k t h2 j o=some {r with h:=h2}:=by
 unfold opS at e ⊢
 generalize o.op=op at e hc
 cases op<;>simp only [clsOf] at hc<;>simp only at e ⊢
 case call c=>
  cases hcal:c.callee with
  |invoke rr m=>rw [hcal] at e;cases e
  |value f=>
   rw [hcal] at e hc
   simp only at e hc ⊢
   split at e
   ·rename_i f' first capt vs hf hvs
    split at e
    case h_2=>cases e
    obtain ⟨⟨v,h',new,q⟩,hg,rfl⟩:=Option.map_eq_some_iff.1 e
    cases f with
    |func g=>
     simp only [ev,Option.some.injEq,SV.fn.injEq] at hf
     obtain ⟨rfl,rfl,rfl⟩:=hf
     simp only at hc
     have h0:Γ.pf g=1:=by
      split at hc
      ·cases hc
      ·assumption
      ·cases hc
     obtain ⟨h1,h2⟩:=hG.2 g h0 _ _ _ _ _ _ _ hg
     exact ⟨h1,fun h3 hle=>by rw [h2 h3 hle];rfl⟩
    |_=>simp at hc
   ·cases e
  |builtin b=>rw [hcal] at hc;cases b<;>cases hc
 all_goals first|(cases hc;done)|(split at hc<;>first|(cases hc;done)|(split at hc<;>cases hc))
theorem makes_take_succ (nb:FuncId→Nat) (ops:List Oper) (i:Nat) (o:Oper) (hi:ops[i]? =some o):makes nb (ops.take (i+1))=makes nb (ops.take i)+nmk nb o.op:=by
 have:ops.take (i+1)=ops.take i++[o]:=by rw [List.take_add_one,hi];rfl
 simp [makes,this]
theorem makes_mono (nb:FuncId→Nat) (ops:List Oper) {i j:Nat} (h:i≤j):makes nb (ops.take i)≤makes nb (ops.take j):=by
 induction j with
 |zero=>obtain rfl:i=0:=by omega
        exact Nat.le_refl _
 |succ j ih=>
  by_cases hij:i=j+1
  ·subst hij;exact Nat.le_refl _
  ·have h1:=ih (by omega)
   cases hq:ops[j]? with
   |none=>
    have:ops.take (j+1)=ops.take j:=by rw [List.take_add_one,hq];simp
    rw [this];exact h1
   |some o=>rw [makes_take_succ nb ops j o hq];omega
theorem resv_apart {nb:FuncId→Nat} {ops:List Oper} {n i j:Nat} {x:Oper} (hi:ops[i]? =some x) (hij:i<j):resv nb ops n i+nmk nb x.op≤resv nb ops n j:=by
 unfold resv
 have h1:=makes_take_succ nb ops i x hi
 have h2:=makes_mono nb ops (i:=i+1) (j:=j) hij
 omega
theorem resv_ge {nb:FuncId→Nat} {ops:List Oper} {n i:Nat}:n≤resv nb ops n i:=Nat.le_add_right _ _
theorem addrOK_iff {nb:FuncId→Nat} {ops:List Oper} {n i:Nat} {m:List Nat} {t:List (Option SV)} {o:Op} (h:addrOK nb ops n m i t o=true) {b:Nat} (hb:addrB t o=some b):
  b<n∨∃j x,j<i∧(m.getD i 0).testBit j=true∧ops[j]? =some x∧resv nb ops n j≤b∧b<resv nb ops n j+nmk nb x.op:=by
 unfold addrOK at h
 rw [hb] at h
 simp only [Bool.or_eq_true,List.any_eq_true,List.mem_range,Bool.and_eq_true] at h
 rcases h with h|⟨j,hj,h1,h2⟩
 ·exact .inl (Nat.le_of_ble_eq_true h)
 ·split at h2
  ·rename_i x hx
   simp only [Bool.and_eq_true] at h2
   exact .inr ⟨j,x,hj,h1,hx,Nat.le_of_ble_eq_true h2.1,Nat.le_of_ble_eq_true h2.2⟩
  ·cases h2
theorem gapsAt_iff {h:List Blk}:∀{n j:Nat},gapsAt h j n=true↔∀i,i<n→h[j+i]? =some .gap
 |0,j=>by simp [gapsAt]
 |n+1,j=>by
  simp only [gapsAt,Bool.and_eq_true,gapsAt_iff (n:=n) (j:=j+1)]
  constructor
  ·rintro ⟨h1,h2⟩ i hi
   cases i with
   |zero=>
    rw [Nat.add_zero]
    split at h1
    ·assumption
    ·cases h1
   |succ i=>rw [show j+(i+1)=j+1+i by omega];exact h2 i (by omega)
  ·intro hall
   refine ⟨?_,fun i hi=>?_⟩
   ·have:=hall 0 (by omega);rw [Nat.add_zero] at this;rw [this]
   ·have:=hall (i+1) (by omega);rw [show j+(i+1)=j+1+i by omega] at this;exact this
theorem fillH_out {h new:List Blk} {j i:Nat} (hi:i<j∨j+new.length≤i):(fillH h j new)[i]? =h[i]? :=by
 rw [fillH_get,if_neg (by omega)]
theorem fillH_comm {h a b:List Blk} {i j:Nat} (hd:i+a.length≤j∨j+b.length≤i):fillH (fillH h i a) j b=fillH (fillH h j b) i a:=by
 apply List.ext_getElem?
 intro x
 simp only [fillH_get,fillH_length]
 by_cases h1:j≤x∧x<j+b.length∧x<h.length
 ·rw [if_pos h1,if_neg (by omega),if_pos h1]
 ·rw [if_neg h1,if_neg h1]
theorem fillH_set {h a:List Blk} {i b:Nat} {bl:Blk} (hd:b<i∨i+a.length≤b):fillH (h.set b bl) i a=(fillH h i a).set b bl:=by
 apply List.ext_getElem?
 intro x
 simp only [fillH_get,List.getElem?_set,List.length_set,fillH_length]
 by_cases h1:b=x
 ·subst h1
  rw [if_neg (by omega)]
  simp
 ·simp only [h1,if_false]
theorem opD_eq {Γ:Ctr} {G:CallFn} {k n i:Nat} {ops:List Oper} {m:List Nat} {t:List (Option SV)} {h h':List Blk} {v:SV} {p:Bool} {new:List Blk} {o:Oper}:opD P Γ G k ops n m i t h o=some (v,h',p,new)↔
  addrOK Γ.nb ops n m i t o.op=true∧∃r,opS P G (dinp Γ) k t h (resv Γ.nb ops n i) o=some r∧r.kill=none∧r.new.length=nmk Γ.nb o.op∧gapsAt h (resv Γ.nb ops n i) (nmk Γ.nb o.op)=true∧r.h.length=h.length∧v=r.v∧h'=fillH r.h (resv Γ.nb ops n i) r.new∧p=r.p∧new=r.new:=by
 unfold opD
 constructor
 ·intro g
  split at g
  ·rename_i r ha hr
   split at g
   ·rename_i hc
    simp only [Bool.and_eq_true,decide_eq_true_eq,Option.isNone_iff_eq_none] at hc
    simp only [Option.some.injEq,Prod.mk.injEq] at g
    obtain ⟨rfl,rfl,rfl,rfl⟩:=g
    exact ⟨ha,r,hr,hc.1.1.1,hc.1.1.2,hc.1.2,hc.2,rfl,rfl,rfl,rfl⟩
   ·cases g
  ·cases g
 ·rintro ⟨ha,r,hr,h1,h2,h3,h4,rfl,rfl,rfl,rfl⟩
  rw [ha,hr]
  simp only
  have:(r.kill.isNone&&decide (r.new.length=nmk Γ.nb o.op)&&gapsAt h (resv Γ.nb ops n i) (nmk Γ.nb o.op)&&decide (r.h.length=h.length))=true:=by
   simp [h1,h2,h3,h4]
  rw [this]
theorem opD_comm {Γ:Ctr} {G:CallFn} (hG:PureC Γ.pf G) {k n i i':Nat} {ops:List Oper} {m:List Nat} {x y:Oper} {t:List (Option SV)} (hx:ops[i]? =some x) (hlt:i<i') (hbit:(m.getD i' 0).testBit i=false)
  (hc:(clsC (clsOf P Γ.pf x.op) (nmk Γ.nb x.op) (clsOf P Γ.pf y.op) (nmk Γ.nb y.op)||addrC (clsOf P Γ.pf x.op) (addrB t x.op) (clsOf P Γ.pf y.op) (addrB t y.op))=true) {h h1 h2:List Blk} {vx vy:SV} {px py:Bool} {wx wy:List Blk}
  (e1:opD P Γ G k ops n m i t h x=some (vx,h1,px,wx)) (e2:opD P Γ G k ops n m i' t h1 y=some (vy,h2,py,wy)):
  ∃h',opD P Γ G k ops n m i' t h y=some (vy,h',py,wy)∧opD P Γ G k ops n m i t h' x=some (vx,h2,px,wx):=by
 obtain ⟨ax,rx,ox,kx,nx,gx,lx,rfl,rfl,rfl,rfl⟩:=opD_eq.1 e1
 obtain ⟨ay,ry,oy,ky,ny,gy,ly,rfl,rfl,rfl,rfl⟩:=opD_eq.1 e2
 have hap:=resv_apart (nb:=Γ.nb) (n:=n) hx hlt
 have yout:∀b,addrB t y.op=some b→b<resv Γ.nb ops n i∨resv Γ.nb ops n i+rx.new.length≤b:=fun b hb=>by
  rw [nx]
  rcases addrOK_iff ay hb with h|⟨j,z,hj,h3,h4,h5,h6⟩
  ·have:=resv_ge (nb:=Γ.nb) (ops:=ops) (n:=n) (i:=i);omega
  ·rcases Nat.lt_trichotomy j i with q|q|q
   ·have:=resv_apart (nb:=Γ.nb) (n:=n) h4 q;omega
   ·subst q;rw [hbit] at h3;cases h3
   ·have:=resv_apart (nb:=Γ.nb) (n:=n) hx q;omega
 have xout:∀b,addrB t x.op=some b→b<resv Γ.nb ops n i':=fun b hb=>by
  rcases addrOK_iff ax hb with h|⟨j,z,hj,h3,h4,h5,h6⟩
  ·have:=resv_ge (nb:=Γ.nb) (ops:=ops) (n:=n) (i:=i');omega
  ·have:=resv_apart (nb:=Γ.nb) (n:=n) h4 (show j<i' by omega);omega
 rw [Bool.or_eq_true] at hc
 rcases hc with hc|hc
 case inr=>
  unfold addrC at hc
  rw [Bool.and_eq_true] at hc
  obtain ⟨hcls,hne⟩:=hc
  simp only [Bool.or_eq_true,Bool.and_eq_true,beq_iff_eq] at hcls
  cases hbx:addrB t x.op with
  |none=>rw [hbx] at hne;cases hne
  |some bx=>
   cases hby:addrB t y.op with
   |none=>rw [hbx,hby] at hne;cases hne
   |some by_=>
    rw [hbx,hby] at hne
    have hne':bx≠by_:=fun q=>by
     subst q
     have:Nat.beq bx bx=true:=Nat.beq_refl bx
     simp only [this] at hne
     cases hne
    have kx2:∀(c:clsOf P Γ.pf x.op=2),∃px',rx.new=[]∧(∃ps,h[bx]? =some (.b ps))∧rx.h=h.set bx (.b px')∧∀h2,h2[bx]? =h[bx]? →opS P G (dinp Γ) k t h2 (resv Γ.nb ops n i) x=some {rx with h:=h2.set bx (.b px')}:=fun c=>by
     obtain ⟨q3,_,b,ps,ps',hb,hbp,q1,qx⟩:=opS_store c ox
     rw [hbx] at hb;cases hb
     exact ⟨ps',q3,⟨ps,hbp⟩,q1,qx⟩
    have ky2:∀{hh:List Blk},opS P G (dinp Γ) k t hh (resv Γ.nb ops n i') y=some ry→∀(c:clsOf P Γ.pf y.op=2),∃py',ry.new=[]∧(∃ps,hh[by_]? =some (.b ps))∧ry.h=hh.set by_ (.b py')∧∀h2,h2[by_]? =hh[by_]? →opS P G (dinp Γ) k t h2 (resv Γ.nb ops n i') y=some {ry with h:=h2.set by_ (.b py')}:=fun oy c=>by
     obtain ⟨q3,_,b,ps,ps',hb,hbp,q1,qx⟩:=opS_store c oy
     rw [hby] at hb;cases hb
     exact ⟨ps',q3,⟨ps,hbp⟩,q1,qx⟩
    have n0:∀{o:Oper},(clsOf P Γ.pf o.op=1∨clsOf P Γ.pf o.op=2)→∀{hh:List Blk} {j:Nat} {r:Res},opS P G (dinp Γ) k t hh j o=some r→r.new=[]:=fun {o} c {hh j r} ho=>by
     rcases c with c|c
     ·exact (opS_load c ho).2.1
     ·exact (opS_store c ho).1
    have hnx:rx.new=[]:=n0 (by omega) ox
    have hny:ry.new=[]:=n0 (by omega) oy
    rw [hnx] at oy gy ly nx
    simp only [fillH] at oy gy ly
    rw [hny] at ny
    have nx':nmk Γ.nb x.op=0:=nx.symm
    have ny':nmk Γ.nb y.op=0:=ny.symm
    have gap0:∀(hh:List Blk) (j:Nat),gapsAt hh j 0=true:=fun _ _=>rfl
    rcases hcls with ⟨c2,c1|c2'⟩|⟨c1,c2⟩
    ·obtain ⟨px',_,_,q1,qx⟩:=kx2 c2
     obtain ⟨q2,_,_,qy⟩:=opS_load c1 oy
     have o2:=qy h fun b hb=>by rw [hby] at hb;cases hb;rw [q1,List.getElem?_set_ne hne']
     refine ⟨h,opD_eq.2 ⟨ay,{ry with h:=h},o2,ky,by rw [hny,ny'];rfl,by rw [ny'];exact gap0 _ _,rfl,rfl,by simp only;rw [hny];rfl,rfl,rfl⟩,opD_eq.2 ⟨ax,rx,ox,kx,by rw [hnx,nx'];rfl,gx,lx,rfl,?_,rfl,rfl⟩⟩
     rw [q2,hny,hnx];rfl
    ·obtain ⟨px',_,⟨psx,hpx⟩,q1,qx⟩:=kx2 c2
     obtain ⟨py',_,⟨psy,hpy⟩,q2,qy⟩:=ky2 oy c2'
     have o2:=qy h (by rw [q1,List.getElem?_set_ne hne'])
     have o1:=qx (h.set by_ (.b py')) (by rw [List.getElem?_set_ne (Ne.symm hne')])
     refine ⟨h.set by_ (.b py'),opD_eq.2 ⟨ay,_,o2,ky,by simp only;rw [hny,ny'];rfl,by rw [ny'];exact gap0 _ _,by simp,rfl,by simp only;rw [hny];rfl,rfl,rfl⟩,opD_eq.2 ⟨ax,_,o1,kx,by simp only;rw [hnx,nx'];rfl,by rw [nx'];exact gap0 _ _,by simp,rfl,?_,rfl,rfl⟩⟩
     simp only
     rw [q2,q1,hny,hnx]
     exact (List.set_comm _ _ hne')
    ·obtain ⟨q1,_,_,qx⟩:=opS_load c1 ox
     rw [q1] at oy gy ly
     obtain ⟨py',_,⟨psy,hpy⟩,q2,qy⟩:=ky2 oy c2
     have o1:=qx (h.set by_ (.b py')) fun b hb=>by rw [hbx] at hb;cases hb;rw [List.getElem?_set_ne (Ne.symm hne')]
     refine ⟨h.set by_ (.b py'),opD_eq.2 ⟨ay,ry,oy,ky,by rw [hny,ny'];rfl,by rw [ny'];exact gap0 _ _,ly,rfl,by rw [q2,hny];rfl,rfl,rfl⟩,opD_eq.2 ⟨ax,_,o1,kx,by simp only;rw [hnx,nx'];rfl,by rw [nx'];exact gap0 _ _,rfl,rfl,?_,rfl,rfl⟩⟩
     simp only
     rw [q2,hny,hnx];rfl
 unfold clsC at hc
 simp only [Bool.or_eq_true,Bool.and_eq_true,beq_iff_eq] at hc
 by_cases cx:clsOf P Γ.pf x.op=0
 ·obtain ⟨q1,_,qx⟩:=opS_pure hG cx ox
  rw [q1] at oy gy ly
  have gback:gapsAt h (resv Γ.nb ops n i') (nmk Γ.nb y.op)=true:=by
   rw [gapsAt_iff] at gy ⊢
   intro a ha
   have:=gy a ha
   rwa [fillH_out (by rw [nx];omega)] at this
  have gfwd:∀h':List Blk,(∀a,a<resv Γ.nb ops n i'→h'[a]? =h[a]?)→gapsAt h' (resv Γ.nb ops n i) (nmk Γ.nb x.op)=true:=fun h' hh=>by
   rw [gapsAt_iff] at gx ⊢
   intro a ha
   rw [hh _ (by omega)];exact gx a ha
  by_cases cy:clsOf P Γ.pf y.op=0
  ·obtain ⟨q2,_,qy⟩:=opS_pure hG cy oy
   refine ⟨fillH h (resv Γ.nb ops n i') ry.new,opD_eq.2 ⟨ay,{ry with h:=h},qy h,ky,ny,gback,rfl,rfl,rfl,rfl,rfl⟩,opD_eq.2 ⟨ax,_,qx _,kx,nx,gfwd _ fun a ha=>fillH_out (.inl ha),rfl,rfl,?_,rfl,rfl⟩⟩
   rw [q2]
   exact fillH_comm (.inl (by rw [nx];exact hap))
  ·by_cases cy1:clsOf P Γ.pf y.op=1
   ·obtain ⟨q2,q3,_,qy⟩:=opS_load cy1 oy
    have:=qy h fun b hb=>(fillH_out (yout b hb)).symm
    refine ⟨h,opD_eq.2 ⟨ay,{ry with h:=h},this,ky,ny,gback,rfl,rfl,by rw [q3];rfl,rfl,rfl⟩,opD_eq.2 ⟨ax,rx,ox,kx,nx,gx,lx,rfl,?_,rfl,rfl⟩⟩
    rw [q2,q3,q1];rfl
   ·by_cases cy2:clsOf P Γ.pf y.op=2
    ·obtain ⟨q3,_,b,ps,ps',hb,hbp,q2,qy⟩:=opS_store cy2 oy
     have ho:=yout b hb
     have:=qy h (fillH_out ho).symm
     refine ⟨h.set b (.b ps'),opD_eq.2 ⟨ay,_,this,ky,ny,gback,by simp,rfl,by simp only;rw [q3];rfl,rfl,rfl⟩,opD_eq.2 ⟨ax,_,qx _,kx,nx,?_,rfl,rfl,?_,rfl,rfl⟩⟩
     ·rw [gapsAt_iff] at gx ⊢
      intro a ha
      rw [List.getElem?_set_ne (by rw [nx] at ho;omega)];exact gx a ha
     ·rw [q2,q3]
      simp only [fillH]
      exact (fillH_set ho).symm
    ·
     have hn0:nmk Γ.nb x.op=0:=by omega
     have hnew:rx.new=[]:=List.length_eq_zero_iff.1 (by omega)
     rw [hnew] at oy gy ly
     simp only [fillH] at oy gy ly
     refine ⟨_,opD_eq.2 ⟨ay,ry,oy,ky,ny,gback,ly,rfl,rfl,rfl,rfl⟩,opD_eq.2 ⟨ax,_,qx _,kx,nx,by rw [hn0];rfl,rfl,rfl,?_,rfl,rfl⟩⟩
     rw [hnew];rfl
 ·by_cases cy:clsOf P Γ.pf y.op=0
  ·obtain ⟨q2,_,qy⟩:=opS_pure hG cy oy
   by_cases cx1:clsOf P Γ.pf x.op=1
   ·obtain ⟨q1,q3,_,qx⟩:=opS_load cx1 ox
    rw [q1,q3] at oy gy ly q2
    simp only [fillH] at oy gy ly q2
    refine ⟨_,opD_eq.2 ⟨ay,ry,oy,ky,ny,gy,ly,rfl,rfl,rfl,rfl⟩,?_⟩
    rw [q2]
    have:=qx (fillH h (resv Γ.nb ops n i') ry.new) fun b hb=>fillH_out (.inl (xout b hb))
    refine opD_eq.2 ⟨ax,_,this,kx,nx,?_,rfl,rfl,by simp only;rw [q3];rfl,rfl,rfl⟩
    rw [gapsAt_iff] at gx ⊢
    intro a ha
    rw [fillH_out (.inl (by omega))];exact gx a ha
   ·by_cases cx2:clsOf P Γ.pf x.op=2
    ·obtain ⟨q3,_,b,ps,ps',hb,hbp,q1,qx⟩:=opS_store cx2 ox
     rw [q1,q3] at oy gy ly q2
     simp only [fillH] at oy gy ly q2
     have ho:=xout b hb
     refine ⟨_,opD_eq.2 ⟨ay,_,qy h,ky,ny,?_,rfl,rfl,rfl,rfl,rfl⟩,?_⟩
     ·rw [gapsAt_iff] at gy ⊢
      intro a ha
      have:=gy a ha
      rwa [List.getElem?_set_ne (by omega)] at this
     ·have:=qx (fillH h (resv Γ.nb ops n i') ry.new) (fillH_out (.inl ho))
      refine opD_eq.2 ⟨ax,_,this,kx,nx,?_,by simp,rfl,?_,rfl,rfl⟩
      ·rw [gapsAt_iff] at gx ⊢
       intro a ha
       rw [fillH_out (.inl (by omega))];exact gx a ha
      ·simp only;rw [q2,q3]
       simp only [fillH]
       exact fillH_set (.inl ho)
    ·by_cases cx4:clsOf P Γ.pf x.op=4∧nmk Γ.nb x.op=0
     ·
      obtain ⟨q1,qx⟩:=opS_read hG cx4.1 ox
      have hxn:rx.new=[]:=List.length_eq_zero_iff.1 (by omega)
      rw [q1,hxn] at oy gy ly q2
      simp only [fillH] at oy gy ly q2
      have hle:BLe h (fillH h (resv Γ.nb ops n i') ry.new):=fun a ps ha=>by
       rw [fillH_get,if_neg]
       ·exact ha
       ·intro hc'
        have:=(gapsAt_iff.1 gy) (a-resv Γ.nb ops n i') (by rw [←ny];omega)
        rw [show resv Γ.nb ops n i'+(a-resv Γ.nb ops n i')=a by omega,ha] at this
        cases this
      refine ⟨_,opD_eq.2 ⟨ay,ry,oy,ky,ny,gy,ly,rfl,rfl,rfl,rfl⟩,?_⟩
      rw [q2]
      refine opD_eq.2 ⟨ax,_,qx _ hle,kx,nx,by rw [cx4.2];rfl,rfl,rfl,by simp only;rw [hxn];rfl,rfl,rfl⟩
     have hn0:nmk Γ.nb y.op=0:=by omega
     have hnew:ry.new=[]:=List.length_eq_zero_iff.1 (by omega)
     refine ⟨h,opD_eq.2 ⟨ay,_,qy h,ky,ny,by rw [hn0];rfl,rfl,rfl,by simp only;rw [hnew];rfl,rfl,rfl⟩,opD_eq.2 ⟨ax,rx,ox,kx,nx,gx,lx,rfl,?_,rfl,rfl⟩⟩
     rw [q2,hnew];rfl
  ·
   obtain ⟨⟨hx14,hy14⟩,hnx,hny⟩:((clsOf P Γ.pf x.op=1∨clsOf P Γ.pf x.op=4)∧(clsOf P Γ.pf y.op=1∨clsOf P Γ.pf y.op=4))∧nmk Γ.nb x.op=0∧nmk Γ.nb y.op=0:=by
    rcases hc with (hc|hc)|hc
    ·exact absurd hc.1 cx
    ·exact absurd hc.1 cy
    ·exact ⟨⟨hc.1.1.1,hc.1.1.2⟩,hc.1.2,hc.2⟩
   have hxn:rx.new=[]:=List.length_eq_zero_iff.1 (by omega)
   have hyn:ry.new=[]:=List.length_eq_zero_iff.1 (by omega)
   have q1:rx.h=h:=by
    rcases hx14 with c|c
    ·exact (opS_load c ox).1
    ·exact (opS_read hG c ox).1
   rw [q1,hxn] at oy gy ly
   simp only [fillH] at oy gy ly
   have q2:ry.h=h:=by
    rcases hy14 with c|c
    ·exact (opS_load c oy).1
    ·exact (opS_read hG c oy).1
   refine ⟨h,opD_eq.2 ⟨ay,ry,oy,ky,ny,gy,ly,rfl,by rw [q2,hyn];rfl,rfl,rfl⟩,opD_eq.2 ⟨ax,rx,ox,kx,nx,gx,lx,rfl,by rw [q2,hyn,q1,hxn];rfl,rfl,rfl⟩⟩
end
theorem mask_bit (acc:List Nat) (j:Nat):∀(es:List Edge) (s:Nat),(es.foldl (fun s e=>if Region.binds .any e then s|||2^e.on|||acc.getD e.on 0 else s) s).testBit j=true→
  s.testBit j=true∨∃e∈es,Region.binds .any e=true∧(j=e.on∨(acc.getD e.on 0).testBit j=true)
 | [],s,h=>.inl h
 |e::es,s,h=>by
  simp only [List.foldl_cons] at h
  rcases mask_bit acc j es _ h with h1|⟨e',he',hb,h1⟩
  ·split at h1
   ·rename_i hb
    simp only [Nat.testBit_or,Bool.or_eq_true,Nat.testBit_two_pow,decide_eq_true_eq] at h1
    rcases h1 with (h1|h1)|h1
    ·exact .inl h1
    ·exact .inr ⟨e,by simp,hb,.inl h1.symm⟩
    ·exact .inr ⟨e,by simp,hb,.inr h1⟩
   ·exact .inl h1
  ·exact .inr ⟨e',by simp [he'],hb,h1⟩
theorem getD_app {l m:List Nat} {i:Nat} (h:i<l.length):(l++m).getD i 0=l.getD i 0:=by
 rw [List.getD_eq_getElem?_getD,List.getElem?_append_left h,List.getD_eq_getElem?_getD]
def MaskOK (ops:List Oper) (m:List Nat):Prop:=
 ∀(i:Nat) (o:Oper),i<m.length→ops[i]? =some o→∀j:Nat,(m.getD i 0).testBit j=true→∃e∈o.after.toList,Region.binds .any e=true∧(j=e.on∨(e.on<i∧(m.getD e.on 0).testBit j=true))
theorem masks_ok:∀(rest done:List Oper) (acc:List Nat),acc.length=done.length→MaskOK (done++rest) acc→MaskOK (done++rest) (masks rest acc)
 | [],_,acc,_,h=>h
 |o::rest,done,acc,hl,h=>by
  have:done++o::rest=(done++[o])++rest:=by simp
  rw [this]
  apply masks_ok rest (done++[o]) (acc++[maskOf acc o]) (by simp [hl])
  rw [←this]
  intro i x hi hx j hj
  rcases Nat.lt_or_ge i acc.length with h1|h1
  ·rw [getD_app h1] at hj
   obtain ⟨e,he,hb,h2⟩:=h i x h1 hx j hj
   refine ⟨e,he,hb,h2.imp id fun h3=>⟨h3.1,?_⟩⟩
   rw [getD_app (by omega)];exact h3.2
  ·simp at hi
   have hi':i=acc.length:=by omega
   subst hi'
   rw [hl,List.getElem?_append_right (Nat.le_refl _)] at hx
   simp at hx
   subst hx
   simp only [List.getD_eq_getElem?_getD,List.getElem?_append_right (Nat.le_refl _),Nat.sub_self,List.getElem?_cons_zero,Option.getD_some] at hj
   rcases mask_bit acc j _ 0 hj with h2|⟨e,he,hb,h2⟩
   ·simp at h2
   ·refine ⟨e,he,hb,h2.imp id fun h3=>?_⟩
    have:e.on<acc.length:=by
     rcases Nat.lt_or_ge e.on acc.length with h4|h4
     ·exact h4
     ·rw [List.getD_eq_getElem?_getD,List.getElem?_eq_none h4] at h3;simp at h3
    exact ⟨this,by rw [getD_app this];exact h3⟩
def Closed (ops:List Oper) (listed:Array Bool):Prop:=
 ∀(j:Nat) (o:Oper),ops[j]? =some o→listed.getD j false=true→∀e∈o.after.toList,Region.binds .any e=true→listed.getD e.on false=true
theorem closed_mask {ops:List Oper} {m:List Nat} (hm:MaskOK ops m) (hlen:m.length=ops.length) {listed:Array Bool} (hc:Closed ops listed):∀(n i:Nat) (o:Oper),i≤n→ops[i]? =some o→
  (∀e∈o.after.toList,Region.binds .any e=true→listed.getD e.on false=true)→∀j:Nat,(m.getD i 0).testBit j=true→listed.getD j false=true:=by
 intro n
 induction n with
 |zero=>
  intro i o hi ho hp j hj
  obtain ⟨e,he,hb,h1⟩:=hm i o (by rw [hlen];exact (List.getElem?_eq_some_iff.1 ho).1) ho j hj
  rcases h1 with rfl|⟨h1,_⟩
  ·exact hp e he hb
  ·omega
 |succ n ih=>
  intro i o hi ho hp j hj
  obtain ⟨e,he,hb,h1⟩:=hm i o (by rw [hlen];exact (List.getElem?_eq_some_iff.1 ho).1) ho j hj
  rcases h1 with rfl|⟨h1,h2⟩
  ·exact hp e he hb
  ·have hlt:e.on<ops.length:=by have:=(List.getElem?_eq_some_iff.1 ho).1;omega
   have heo:=List.getElem?_eq_getElem hlt
   exact ih e.on _ (by omega) heo (hc e.on _ heo (hp e he hb)) j h2
theorem masks_length:∀(rest:List Oper) (acc:List Nat),(masks rest acc).length=acc.length+rest.length
 | [],acc=>by simp [masks]
 |o::rest,acc=>by rw [masks,masks_length rest];simp;omega
section
variable {P:Program}
theorem opS_grow {G:CallFn} {k j:Nat} {t:List (Option SV)} {h:List Blk} {r:Res} {o:Oper} (ha:isApp o.op=true) (e:opS P G (fun _=>false) k t h j o=some r) (hn:r.new=[]):
  ∃b ps B,r.kill=some b∧h[b]? =some (.b ps)∧r.h=h.set b (.b B)∧noUseB b (h.set b (.b B))=true∧
   ∀h2 j2,h2[b]? =h[b]? →(∀c,srcB t o.op=some c→h2[c]? =h[c]?)→noUseB b (h2.set b (.b B))=true→opS P G (fun _=>false) k t h2 j2 o=some {r with h:=h2.set b (.b B)}:=by
 obtain ⟨d,op,ty0,pos,aft,gd⟩:=o
 simp only at ha e ⊢
 unfold isApp at ha
 split at ha
 case h_2=>cases ha
 rename_i c
 split at ha
 case h_2=>cases ha
 rename_i hcal
 have hd:(d.map fun _=>false).getD false=false:=by cases d<;>rfl
 unfold opS at e ⊢
 simp only [hcal,hd] at e ⊢
 split at e
 case h_2=>cases e
 rename_i ty xt a b hty hargs
 have hsrc:∀cc,(match some b with|some (.sl b _ _ _ _ _ _ _)=>some b|some (.rsl b _ _ _ _)=>some b|_=>none)=some cc→srcB t (.call c)=some cc:=fun cc hcc=>by
  cases hl:c.args.toList with
  |nil=>rw [hl] at hargs;cases hargs
  |cons a1 l1=>cases l1 with
   |nil=>
    rw [hl] at hargs
    simp only [evL] at hargs
    split at hargs
    ·rename_i h1 h2;cases h2;cases hargs
    ·cases hargs
   |cons a2 l2=>cases l2 with
    |nil=>
     rw [hl] at hargs
     simp only [evL] at hargs
     split at hargs
     ·rename_i u us h1 h2
      split at h2
      ·rename_i v vs h3 h4
       cases h4;cases h2;cases hargs
       simp only [srcB,hl,h3]
       exact hcc
      ·cases h2
     ·cases hargs
    |cons a3 l3=>
     exfalso
     have len:∀{xs:List Operand} {vs:List SV},evL t xs=some vs→vs.length=xs.length:=by
      intro xs
      induction xs with
      |nil=>intro vs h;cases h;rfl
      |cons x xs ih=>
       intro vs h
       simp only [evL] at h
       split at h
       ·rename_i h2;cases h;simp [ih h2]
       ·cases h
     have:=len hargs
     rw [hl] at this
     simp at this
 unfold appendS at e ⊢
 split at e
 ·rename_i el kk h1 h2
  unfold appendZ at e ⊢
  split at e
  ·cases e;cases hn
  ·rename_i b0 z' len cap ex m z hki hok
   split at e
   ·rename_i zz n g zs hb hzS
    split at e
    ·rename_i hcond
     cases e
     simp only [Bool.and_eq_true] at hcond
     refine ⟨b0,_,_,rfl,hb,rfl,hcond.2,fun h2' j2 q1 q2 q3=>?_⟩
     simp only [q1,hb,hzS]
     rw [if_pos (by simp only [Bool.and_eq_true];exact ⟨hcond.1,q3⟩)]
    ·cases e
   ·cases e
  ·cases e
 ·cases e
 ·rename_i el dd hni h1 h2
  split at e
  case h_2=>cases e
  rename_i z cy py ny hz hcy hny
  split at e
  ·cases e;cases hn
  ·rename_i b0 o0 i0 z' len cap ex wh
   split at e
   ·cases e;cases hn
   ·split at e
    ·rename_i hh;cases hh
    ·split at e
     case h_2=>cases e
     rename_i cx px hcx
     split at e
     case isFalse=>
      split at e
      ·cases e;cases hn
      ·cases e
     rename_i hcond
     cases e
     have hb:∃ps,h[b0]? =some (.b ps):=by
      simp only [contS] at hcx
      split at hcx
      ·rename_i ps hps;exact ⟨ps,hps⟩
      ·cases hcx
     obtain ⟨ps,hps⟩:=hb
     simp only [Bool.and_eq_true] at hcond
     refine ⟨b0,ps,joinP cx cy,rfl,hps,rfl,hcond.2,fun h2' j2 q1 q2 q3=>?_⟩
     have e1:contS h2' b=contS h b:=contS_h fun cc hcc=>q2 cc (hsrc cc hcc)
     have e2:contS h2' (.sl b0 o0 i0 z' len cap ex wh)=contS h (.sl b0 o0 i0 z' len cap ex wh):=contS_h fun cc hcc=>by cases hcc;exact q1
     rw [e1,hz,hcy,hny]
     simp only [e2,hcx]
     rw [if_pos (by simp only [Bool.and_eq_true];exact ⟨hcond.1,q3⟩)]
  ·rename_i b0 z' len cap ex
   split at e
   ·cases e;cases hn
   ·rename_i hem
    split at e
    ·rename_i zz n g hb
     split at e
     ·rename_i hcond
      cases e
      simp only [Bool.and_eq_true] at hcond
      refine ⟨b0,_,_,rfl,hb,rfl,hcond.2,fun h2' j2 q1 q2 q3=>?_⟩
      have e1:contS h2' b=contS h b:=contS_h fun cc hcc=>q2 cc (hsrc cc hcc)
      rw [e1,hz,hcy,hny]
      simp only [q1,hb]
      rw [if_pos (by simp only [Bool.and_eq_true];exact ⟨hcond.1,q3⟩)]
     ·cases e
    ·cases e
  ·cases e
 ·cases e
theorem killT_get {b:Nat} {t:List (Option SV)} {i:Nat} (h:noUseS b (t[i]?)=true):(killT (some b) t)[i]? =t[i]? :=by
 simp only [killT,List.getElem?_map]
 cases hq:t[i]? with
 |none=>rfl
 |some x=>
  cases x with
  |none=>rfl
  |some v=>
   rw [hq] at h
   simp only [noUseS,Bool.not_eq_true'] at h
   simp [h]
theorem killT_back {b:Nat} {t:List (Option SV)} {i:Nat} (h:noUseS b ((killT (some b) t)[i]?)=true):noUseS b (t[i]?)=true:=by
 simp only [killT,List.getElem?_map] at h
 cases hq:t[i]? with
 |none=>rw [hq] at h;cases h
 |some x=>
  cases x with
  |none=>rw [hq] at h;cases h
  |some v=>
   rw [hq] at h
   simp only [Option.map_some] at h
   by_cases hu:uses b v=true
   ·rw [if_pos hu] at h;cases h
   ·rw [if_neg hu] at h;exact h
theorem killT_put {b:Nat} {t:List (Option SV)} {d:Option Tmp} {v:SV} (h:uses b v=false):killT (some b) (putT t d v)=putT (killT (some b) t) d v:=by
 cases d with
 |none=>rfl
 |some i=>simp only [putT,killT,List.map_set,h];rfl
theorem put_get {t:List (Option SV)} {d:Option Tmp} {v:SV} {i:Nat} (h:∀j,d=some j→j≠i):(putT t d v)[i]? =t[i]? :=by
 cases d with
 |none=>rfl
 |some j=>exact List.getElem?_set_ne (h j rfl)
theorem ev_same {t t':List (Option SV)} {ops:Array Oper} {o:Oper} (h:∀i∈o.looksAt ops,t'[i]? =t[i]?):∀x∈o.op.operands,ev t' x=ev t x:=by
 intro x hx
 cases x with
 |tmp i=>
  have:=h i (by simp only [Oper.looksAt,List.mem_append,List.mem_filterMap];exact .inl ⟨_,Array.mem_toList_iff.2 hx,rfl⟩)
  simp only [ev,this]
 |_=>rfl
theorem guardT_looks {ops:Array Oper} {o:Oper} {i:Tmp} (h:i∈guardT ops o):i∈o.looksAt ops:=by
 simp only [Oper.looksAt,List.mem_append]
 refine .inr ?_
 unfold guardT at h
 cases hg:o.guard with
 |none=>rw [hg] at h;cases h
 |some g=>
  rw [hg] at h
  have:ops[g.1]? =ops.toList[g.1]? :=by simp
  simp only [this]
  exact h
theorem wantS_same {t t':List (Option SV)} {ops:Array Oper} {o:Oper} (h:∀i∈guardT ops o,t'[i]? =t[i]?):wantS ops t' o=wantS ops t o:=by
 unfold wantS
 cases hg:o.guard with
 |none=>rfl
 |some g=>
  obtain ⟨j,w⟩:=g
  simp only
  cases hd:(ops.toList[j]?).bind (·.dst) with
  |none=>rfl
  |some i=>
   simp only
   rw [h i (by unfold guardT;rw [hg];simp only;rw [hd];simp)]
theorem noUseB_iff {b:Nat} {h:List Blk}:noUseB b h=true↔∀(i:Nat) (x:Blk),h[i]? =some x→noUseB b [x]=true:=by
 unfold noUseB
 rw [List.all_eq_true]
 constructor
 ·intro g i x hi
  simp only [List.all_cons,List.all_nil,Bool.and_true]
  exact g x (List.mem_of_getElem? hi)
 ·intro g x hx
  obtain ⟨i,hi⟩:=List.getElem?_of_mem hx
  have:=g i x hi
  simpa only [List.all_cons,List.all_nil,Bool.and_true] using this
theorem noUseB_fill {b r:Nat} {h new:List Blk} (h1:noUseB b h=true) (h2:noUseB b new=true):noUseB b (fillH h r new)=true:=by
 rw [noUseB_iff] at h1 h2 ⊢
 intro i x hi
 rw [fillH_get] at hi
 split at hi
 ·exact h2 _ x hi
 ·exact h1 _ x hi
theorem noUseB_unfill {b r:Nat} {h new:List Blk} (h1:noUseB b (fillH h r new)=true) (hg:∀i,i<new.length→h[r+i]? =some .gap):noUseB b h=true:=by
 rw [noUseB_iff] at h1 ⊢
 intro i x hi
 by_cases hr:r≤i∧i<r+new.length
 ·have:=hg (i-r) (by omega)
  rw [show r+(i-r)=i by omega,hi] at this
  cases this
  rfl
 ·refine h1 i x ?_
  rw [fillH_get,if_neg (by omega)]
  exact hi
theorem outR_iff {b r n:Nat}:outR b r n=true↔b<r∨r+n≤b:=by
 unfold outR
 rw [Bool.or_eq_true]
 constructor
 ·rintro (h|h)
  ·exact .inl (Nat.le_of_ble_eq_true h)
  ·exact .inr (Nat.le_of_ble_eq_true h)
 ·rintro (h|h)
  ·exact .inl (Nat.ble_eq_true_of_le h)
  ·exact .inr (Nat.ble_eq_true_of_le h)
theorem opD_kind {Γ:Ctr} {G:CallFn} (hG:PureC Γ.pf G) {k n j:Nat} {ops:List Oper} {m:List Nat} {y:Oper} {t:List (Option SV)} {h:List Blk} {v:SV} {h1:List Blk} {p:Bool} {new:List Blk}
  (hc:clsOf P Γ.pf y.op=0∨clsOf P Γ.pf y.op=1) (e:opD P Γ G k ops n m j t h y=some (v,h1,p,new)):
  h1=fillH h (resv Γ.nb ops n j) new∧new.length=nmk Γ.nb y.op∧∀q,q<new.length→h[resv Γ.nb ops n j+q]? =some .gap:=by
 obtain ⟨ay,ry,oy,ky,ny,gy,ly,rfl,rfl,rfl,rfl⟩:=opD_eq.1 e
 refine ⟨?_,ny,fun q hq=>(gapsAt_iff.1 gy) q (by omega)⟩
 rcases hc with hc|hc
 ·rw [(opS_pure hG hc oy).1]
 ·rw [(opS_load hc oy).1]
theorem opD_other {Γ:Ctr} {G:CallFn} (hG:PureC Γ.pf G) {k n j:Nat} {ops:List Oper} {m:List Nat} {y:Oper} {t t':List (Option SV)} {h:List Blk} {b:Nat} {X:Blk} {v:SV} {h1:List Blk} {p:Bool} {new:List Blk}
  (he:∀x∈y.op.operands,ev t' x=ev t x) (hc:clsOf P Γ.pf y.op=0∨clsOf P Γ.pf y.op=1∧∀d,addrB t y.op=some d→d≠b) (ho:b<resv Γ.nb ops n j∨resv Γ.nb ops n j+nmk Γ.nb y.op≤b)
  (e:opD P Γ G k ops n m j t h y=some (v,h1,p,new)):
  opD P Γ G k ops n m j t' (h.set b X) y=some (v,fillH (h.set b X) (resv Γ.nb ops n j) new,p,new):=by
 obtain ⟨ay,ry,oy,ky,ny,gy,ly,rfl,rfl,rfl,rfl⟩:=opD_eq.1 e
 have hco:∀hh jj,opS P G (dinp Γ) k t' hh jj y=opS P G (dinp Γ) k t hh jj y:=fun hh jj=>opS_congr y he
 have ay':addrOK Γ.nb ops n m j t' y.op=true:=by
  have:addrOK Γ.nb ops n m j t' y.op=addrOK Γ.nb ops n m j t y.op:=by unfold addrOK;rw [addrB_congr he]
  rw [this];exact ay
 have gaps:gapsAt (h.set b X) (resv Γ.nb ops n j) (nmk Γ.nb y.op)=true:=by
  rw [gapsAt_iff] at gy ⊢
  intro i hi
  rw [List.getElem?_set_ne (by omega)]
  exact gy i hi
 rcases hc with hc|⟨hc,hd⟩
 ·obtain ⟨q1,_,qy⟩:=opS_pure hG hc oy
  exact opD_eq.2 ⟨ay',{ry with h:=h.set b X},by rw [hco];exact qy _,ky,ny,gaps,rfl,rfl,rfl,rfl,rfl⟩
 ·obtain ⟨q1,q2,_,qy⟩:=opS_load hc oy
  exact opD_eq.2 ⟨ay',{ry with h:=h.set b X},by rw [hco];exact qy _ fun d hd'=>List.getElem?_set_ne (Ne.symm (hd d hd')),ky,ny,gaps,rfl,rfl,rfl,rfl,rfl⟩
theorem growC_iff {f g:Fp} {cls n r:Nat} (h:growC f cls n r g=true):∃b,f.a=some b∧(cls=0∨cls=1∧∀d,g.a=some d→d≠b)∧(∀x∈g.sl,noUseS b x=true)∧uses b g.v=false∧noUseB b g.new=true∧(b<r∨r+n≤b)∧∀c,f.c=some c→c<r∨r+n≤c:=by
 unfold growC at h
 split at h
 case h_2=>cases h
 rename_i b hb
 simp only [Bool.and_eq_true,Bool.or_eq_true,beq_iff_eq,List.all_eq_true,Bool.not_eq_true'] at h
 obtain ⟨⟨⟨⟨⟨h1,h2⟩,h3⟩,h4⟩,h5⟩,h6⟩:=h
 refine ⟨b,hb,?_,h2,h3,h4,outR_iff.1 h5,fun c hc=>?_⟩
 ·rcases h1 with h1|⟨h1,h7⟩
  ·exact .inl h1
  ·refine .inr ⟨h1,fun d hd=>?_⟩
   rw [hd] at h7
   simp only [Bool.not_eq_true'] at h7
   intro q
   subst q
   rw [Nat.beq_refl] at h7
   cases h7
 ·rw [hc] at h6
  exact outR_iff.1 h6
theorem stepD_plain {Γ:Ctr} {G:CallFn} {k n i:Nat} {ops:Array Oper} {m:List Nat} {o:Oper} {s s1:St} {f:Fp}:(stepD P Γ G k ops n m i o s=some (s1,f)∧f.q=1)↔
  wantS ops s.t o=some true∧growD Γ o=false∧∃v h' p new,opD P Γ G k ops.toList n m i s.t s.h o=some (v,h',p,new)∧
   s1=⟨putT s.t o.dst (takeS Γ.sym o.dst v).1,h',andT (andT s.ob p) (takeS Γ.sym o.dst v).2⟩∧f=⟨1,addrB s.t o.op,none,(o.looksAt ops).map fun i=>s.t[i]?,(takeS Γ.sym o.dst v).1,new⟩:=by
 unfold stepD
 constructor
 ·rintro ⟨e,hf⟩
  split at e
  ·rename_i hw
   split at e
   ·split at e
    ·split at e
     ·cases e;cases hf
     ·cases e
    ·cases e
   ·rename_i hg
    split at e
    ·rename_i q hq
     obtain ⟨v,h',p,new⟩:=q
     cases e
     exact ⟨hw,hg,v,h',p,new,hq,rfl,rfl⟩
    ·cases e
  ·cases e;cases hf
  ·cases e
 ·rintro ⟨hw,hg,v,h',p,new,ho,rfl,rfl⟩
  simp only [hw,hg,ho]
  exact ⟨trivial,trivial⟩
theorem stepD_skip {Γ:Ctr} {G:CallFn} {k n i:Nat} {ops:Array Oper} {m:List Nat} {o:Oper} {s s1:St} {f:Fp}:(stepD P Γ G k ops n m i o s=some (s1,f)∧f.q=0)↔
  wantS ops s.t o=some false∧s1=⟨putT s.t o.dst (.tup []),s.h,s.ob⟩∧f=⟨0,none,none,(guardT ops o).map fun i=>s.t[i]?,.tup [],[]⟩:=by
 unfold stepD
 constructor
 ·rintro ⟨e,hf⟩
  split at e
  ·split at e
   ·split at e
    ·split at e
     ·cases e;cases hf
     ·cases e
    ·cases e
   ·split at e
    ·cases e;cases hf
    ·cases e
  ·rename_i hw;cases e;exact ⟨hw,rfl,rfl⟩
  ·cases e
 ·rintro ⟨hw,rfl,rfl⟩
  simp only [hw]
  exact ⟨trivial,trivial⟩
theorem stepD_grow {Γ:Ctr} {G:CallFn} {k n i:Nat} {ops:Array Oper} {m:List Nat} {o:Oper} {s s1:St} {f:Fp}:(stepD P Γ G k ops n m i o s=some (s1,f)∧f.q=2)↔
  wantS ops s.t o=some true∧growD Γ o=true∧∃r,opS P G (fun _=>false) k s.t s.h (resv Γ.nb ops.toList n i) o=some r∧r.new=[]∧
   s1=⟨putT (killT r.kill s.t) o.dst r.v,r.h,andT s.ob r.p⟩∧f=⟨2,r.kill,srcB s.t o.op,[],.tup [],[]⟩:=by
 unfold stepD
 constructor
 ·rintro ⟨e,hf⟩
  split at e
  ·rename_i hw
   split at e
   ·rename_i hg
    split at e
    ·rename_i r hr
     split at e
     ·rename_i hn
      cases e
      exact ⟨hw,hg,r,hr,hn,rfl,rfl⟩
     ·cases e
    ·cases e
   ·split at e
    ·cases e;cases hf
    ·cases e
  ·cases e;cases hf
  ·cases e
 ·rintro ⟨hw,hg,r,hr,hn,rfl,rfl⟩
  simp only [hw,hg,hr,hn]
  exact ⟨trivial,trivial⟩
theorem growD_app {Γ:Ctr} {o:Oper} (h:growD Γ o=true):isApp o.op=true:=by
 unfold growD at h
 split at h
 ·assumption
 ·cases h
theorem srcB_congr {t t':List (Option SV)} {o:Op} (e:∀x∈o.operands,ev t x=ev t' x):srcB t o=srcB t' o:=by
 cases o<;>simp only [srcB]
 rename_i c
 split
 ·rename_i y x hl
  rw [e x (by
   have:x∈c.args.toList:=by rw [hl];simp
   simp only [Op.operands,Call.operands]
   simp [Array.mem_toList_iff.1 this])]
 ·rfl
theorem grow_plain {Γ:Ctr} {G:CallFn} (hG:PureC Γ.pf G) {k n i j:Nat} {ops:Array Oper} {m:List Nat} {x y:Oper} {f g:Fp} {s s1 s2:St} (d1:∀d,x.dst=some d→d ∉ y.looksAt ops) (d2:∀d,x.dst=some d→y.dst≠some d) (d3:∀d,y.dst=some d→d ∉ x.looksAt ops)
  (hc:growC f (clsOf P Γ.pf y.op) (nmk Γ.nb y.op) (resv Γ.nb ops.toList n j) g=true) (e1:stepD P Γ G k ops n m i x s=some (s1,f)) (e2:stepD P Γ G k ops n m j y s1=some (s2,g)) (hf:f.q=2) (hg:g.q=1):
  ∃s',stepD P Γ G k ops n m j y s=some (s',g)∧stepD P Γ G k ops n m i x s'=some (s2,f):=by
 obtain ⟨wx,gx,r,hr,hn,rfl,rfl⟩:=stepD_grow.1 ⟨e1,hf⟩
 obtain ⟨wy,gy,v,h',p,new,hy,rfl,rfl⟩:=stepD_plain.1 ⟨e2,hg⟩
 obtain ⟨b,ps,B,hk,hb,hh,hu,hall⟩:=opS_grow (growD_app gx) hr hn
 obtain ⟨b',hb',hcl,hsl,hv,hnew,hout,hsrc⟩:=growC_iff hc
 simp only [hk,Option.some.injEq] at hb'
 subst hb'
 simp only at hcl hsl hv hnew hsrc wy hy e2
 rw [hk] at wy hy hsl hcl
 have same:∀q∈y.looksAt ops,noUseS b (s.t[q]?)=true∧(putT (killT (some b) s.t) x.dst r.v)[q]? =s.t[q]? :=fun q hq=>by
  have h0:=hsl _ (List.mem_map_of_mem hq)
  have hne:∀d,x.dst=some d→d≠q:=fun d hd hdq=>d1 d hd (hdq▸hq)
  rw [put_get hne] at h0
  have h1:=killT_back h0
  exact ⟨h1,by rw [put_get hne,killT_get h1]⟩
 have hev:∀z∈y.op.operands,ev s.t z=ev (putT (killT (some b) s.t) x.dst r.v) z:=fun z hz=>(ev_same (fun q hq=>(same q hq).2) z hz).symm
 have hw:wantS ops s.t y=some true:=by
  rw [←wy]
  exact (wantS_same fun q hq=>(same q (guardT_looks hq)).2).symm
 rw [hh] at hy
 obtain ⟨rfl,nl,gp⟩:=opD_kind hG (hcl.imp id fun q=>q.1) hy
 have o1:=opD_other hG (b:=b) (X:=.b ps) hev hcl hout hy
 have hset:(s.h.set b (.b B)).set b (.b ps)=s.h:=by
  rw [List.set_set]
  apply List.ext_getElem?
  intro q
  by_cases hq:b=q
  ·subst hq
   rw [List.getElem?_set_self (List.getElem?_eq_some_iff.1 hb).1,hb]
  ·rw [List.getElem?_set_ne hq]
 rw [hset] at o1
 have gaps:∀q,q<new.length→s.h[resv Γ.nb ops.toList n j+q]? =some .gap:=fun q hq=>by
  have:=gp q hq
  rw [List.getElem?_set_ne (by omega)] at this
  exact this
 have hfs:fillH (s.h.set b (.b B)) (resv Γ.nb ops.toList n j) new=(fillH s.h (resv Γ.nb ops.toList n j) new).set b (.b B):=fillH_set (by omega)
 refine ⟨⟨putT s.t y.dst (takeS Γ.sym y.dst v).1,fillH s.h (resv Γ.nb ops.toList n j) new,andT (andT s.ob p) (takeS Γ.sym y.dst v).2⟩,?_,?_⟩
 ·have q:=(stepD_plain (P:=P) (G:=G) (k:=k) (n:=n) (i:=j) (ops:=ops) (m:=m) (o:=y) (s:=s) (Γ:=Γ)).2 ⟨hw,gy,v,_,p,new,o1,rfl,rfl⟩
  rw [q.1]
  congr 2
  simp only [hk]
  refine Fp.mk.injEq .. |>.mpr ⟨rfl,addrB_congr hev,rfl,?_,rfl,rfl⟩
  exact List.map_congr_left fun q hq=>(same q hq).2.symm
 ·have hpx:∀z∈x.op.operands,ev (putT s.t y.dst (takeS Γ.sym y.dst v).1) z=ev s.t z:=ev_puts d3
  have hs2:noUseB b ((fillH s.h (resv Γ.nb ops.toList n j) new).set b (.b B))=true:=by
   rw [←hfs];exact noUseB_fill hu hnew
  have key:=hall (fillH s.h (resv Γ.nb ops.toList n j) new) (resv Γ.nb ops.toList n i) (fillH_out (by omega)) (fun c hc=>fillH_out (by have:=hsrc c hc;omega)) hs2
  rw [←opS_congr (t:=putT s.t y.dst (takeS Γ.sym y.dst v).1) x hpx] at key
  have q:=(stepD_grow (P:=P) (G:=G) (k:=k) (n:=n) (i:=i) (ops:=ops) (m:=m) (o:=x) (s:=⟨putT s.t y.dst (takeS Γ.sym y.dst v).1,fillH s.h (resv Γ.nb ops.toList n j) new,andT (andT s.ob p) (takeS Γ.sym y.dst v).2⟩) (Γ:=Γ)).2 ⟨by rw [wantS_put d3];exact wx,gx,_,key,hn,rfl,rfl⟩
  rw [q.1]
  congr 2
  ·simp only [hk]
   refine St.mk.injEq .. |>.mpr ⟨?_,hfs.symm,?_⟩
   ·rw [killT_put hv,putT_comm _ _ (fun d hd hdx=>d2 d hdx hd)]
   ·have:∀a c c' d:Bool,andT (andT (andT a c) c') d=andT (andT (andT a d) c) c':=by decide
    exact this _ _ _ _
  ·exact Fp.mk.injEq .. |>.mpr ⟨rfl,rfl,srcB_congr hpx,rfl,rfl,rfl⟩
theorem plain_grow {Γ:Ctr} {G:CallFn} (hG:PureC Γ.pf G) {k n i j:Nat} {ops:Array Oper} {m:List Nat} {x y:Oper} {f g:Fp} {s s1 s2:St} (d1:∀d,x.dst=some d→d ∉ y.looksAt ops) (d2:∀d,x.dst=some d→y.dst≠some d) (d3:∀d,y.dst=some d→d ∉ x.looksAt ops)
  (hc:growC g (clsOf P Γ.pf x.op) (nmk Γ.nb x.op) (resv Γ.nb ops.toList n i) f=true) (e1:stepD P Γ G k ops n m i x s=some (s1,f)) (e2:stepD P Γ G k ops n m j y s1=some (s2,g)) (hf:f.q=1) (hg:g.q=2):
  ∃s',stepD P Γ G k ops n m j y s=some (s',g)∧stepD P Γ G k ops n m i x s'=some (s2,f):=by
 obtain ⟨wx,gx,v,h',p,new,hx,rfl,rfl⟩:=stepD_plain.1 ⟨e1,hf⟩
 obtain ⟨wy,gy,r,hr,hn,rfl,rfl⟩:=stepD_grow.1 ⟨e2,hg⟩
 simp only at wy hr
 obtain ⟨b,ps,B,hk,hb,hh,hu,hall⟩:=opS_grow (growD_app gy) hr hn
 obtain ⟨b',hb',hcl,hsl,hv,hnew,hout,hsrc⟩:=growC_iff hc
 simp only [hk,Option.some.injEq] at hb'
 subst hb'
 simp only at hcl hsl hv hnew hsrc
 have hpy:∀z∈y.op.operands,ev (putT s.t x.dst (takeS Γ.sym x.dst v).1) z=ev s.t z:=ev_puts d1
 obtain ⟨rfl,nl,gp⟩:=opD_kind hG (hcl.imp id fun q=>q.1) hx
 rw [opS_congr y hpy] at hr
 have hsb:srcB (putT s.t x.dst (takeS Γ.sym x.dst v).1) y.op=srcB s.t y.op:=srcB_congr hpy
 rw [hsb] at hsrc
 have hb0:s.h[b]? =(fillH s.h (resv Γ.nb ops.toList n i) new)[b]? :=(fillH_out (by omega)).symm
 have hfs:fillH (s.h.set b (.b B)) (resv Γ.nb ops.toList n i) new=(fillH s.h (resv Γ.nb ops.toList n i) new).set b (.b B):=fillH_set (by omega)
 have gaps:∀q,q<new.length→(s.h.set b (.b B))[resv Γ.nb ops.toList n i+q]? =some .gap:=fun q hq=>by
  rw [List.getElem?_set_ne (by omega)];exact gp q hq
 obtain ⟨b2,ps2,B2,hk2,hb2,hh2,hu2,hall2⟩:=opS_grow (growD_app gy) hr hn
 rw [hk] at hk2
 cases hk2
 have hBB:B2=B:=by
  have h1:=hh.symm.trans hh2
  have h2:(_:List Blk)[b]? =(_:List Blk)[b]? :=congrArg (fun l:List Blk=>l[b]?) h1
  have hlt:=(List.getElem?_eq_some_iff.1 hb).1
  rw [List.getElem?_set_self hlt,List.getElem?_set_self hlt] at h2
  cases h2;rfl
 subst hBB
 have key:=hall2 s.h (resv Γ.nb ops.toList n j) hb0 (fun c hc=>(fillH_out (by have:=hsrc c hc;omega)).symm) (by
  refine noUseB_unfill (new:=new) ?_ gaps
  rw [hfs];exact hu2)
 have same:∀q∈x.looksAt ops,(putT (killT (some b) s.t) y.dst r.v)[q]? =s.t[q]? :=fun q hq=>by
  have h0:=hsl _ (List.mem_map_of_mem hq)
  rw [put_get (fun d hd hdq=>d3 d hd (hdq▸hq)),killT_get h0]
 have hev:∀z∈x.op.operands,ev (putT (killT (some b) s.t) y.dst r.v) z=ev s.t z:=ev_same same
 have o1:=opD_other hG (b:=b) (X:=.b B2) hev hcl hout hx
 refine ⟨⟨putT (killT (some b) s.t) y.dst r.v,s.h.set b (.b B2),andT s.ob r.p⟩,?_,?_⟩
 ·have q:=(stepD_grow (P:=P) (G:=G) (k:=k) (n:=n) (i:=j) (ops:=ops) (m:=m) (o:=y) (s:=s) (Γ:=Γ)).2 ⟨by rw [←wantS_put d1];exact wy,gy,_,key,hn,rfl,rfl⟩
  rw [q.1]
  simp only [hk,hsb]
 ·have q:=(stepD_plain (P:=P) (G:=G) (k:=k) (n:=n) (i:=i) (ops:=ops) (m:=m) (o:=x) (s:=⟨putT (killT (some b) s.t) y.dst r.v,s.h.set b (.b B2),andT s.ob r.p⟩) (Γ:=Γ)).2
   ⟨by rw [←wx];exact wantS_same fun q hq=>same q (guardT_looks hq),gx,v,_,p,new,o1,rfl,rfl⟩
  rw [q.1]
  congr 2
  ·simp only [hk,hh]
   refine St.mk.injEq .. |>.mpr ⟨?_,hfs,?_⟩
   ·rw [killT_put hv,putT_comm _ _ (fun d hd hdx=>d2 d hdx hd)]
   ·have:∀a c c' d:Bool,andT (andT (andT a d) c) c'=andT (andT (andT a c) c') d:=by decide
    exact this _ _ _ _
  ·exact Fp.mk.injEq .. |>.mpr ⟨rfl,addrB_congr hev,rfl,List.map_congr_left fun q hq=>same q hq,rfl,rfl⟩
theorem stepD_comm {Γ:Ctr} {G:CallFn} (hG:PureC Γ.pf G) {k n i i':Nat} {ops:Array Oper} {m:List Nat} {x y:Oper} {f g:Fp} (hx:ops.toList[i]? =some x) (hlt:i<i') (hbit:(m.getD i' 0).testBit i=false)
  (hap:x.apart ops y=true) (hp:pairC P Γ ops.toList n i x f i' y g=true) {s s1 s2:St} (e1:stepD P Γ G k ops n m i x s=some (s1,f)) (e2:stepD P Γ G k ops n m i' y s1=some (s2,g)):
  ∃s',stepD P Γ G k ops n m i' y s=some (s',g)∧stepD P Γ G k ops n m i x s'=some (s2,f):=by
 obtain ⟨h1,h2,h3⟩:(∀d,x.dst=some d→d ∉ y.looksAt ops)∧(∀d,x.dst=some d→y.dst≠some d)∧(∀d,y.dst=some d→d ∉ x.looksAt ops):=by
  unfold Oper.apart at hap
  simp only [Bool.and_eq_true] at hap
  obtain ⟨ha,hb⟩:=hap
  refine ⟨fun d hd=>?_,fun d hd=>?_,fun d hd=>?_⟩
  ·rw [hd] at ha;simp at ha;exact ha.1
  ·rw [hd] at ha;simp at ha;exact ha.2
  ·rw [hd] at hb;simpa using hb
 have dput:∀{j:Nat} {t:List (Option SV)} {h:List Blk} {o:Oper} {dd:Option Tmp} {v:SV},(∀d,dd=some d→d ∉ o.looksAt ops)→opD P Γ G k ops.toList n m j (putT t dd v) h o=opD P Γ G k ops.toList n m j t h o:=fun {j t h o dd v} hn=>by
  have he:=ev_puts (t:=t) (v:=v) hn
  unfold opD
  rw [opS_congr o he]
  have:addrOK Γ.nb ops.toList n m j (putT t dd v) o.op=addrOK Γ.nb ops.toList n m j t o.op:=by unfold addrOK;rw [addrB_congr he]
  rw [this]
 have slput:∀{t:List (Option SV)} {o:Oper} {dd:Option Tmp} {v:SV},(∀d,dd=some d→d ∉ o.looksAt ops)→((o.looksAt ops).map fun i=>(putT t dd v)[i]?)=(o.looksAt ops).map fun i=>t[i]? :=fun {t o dd v} hn=>
  List.map_congr_left fun q hq=>put_get fun d hd hdq=>hn d hd (hdq▸hq)
 have gdput:∀{t:List (Option SV)} {o:Oper} {dd:Option Tmp} {v:SV},(∀d,dd=some d→d ∉ o.looksAt ops)→((guardT ops o).map fun i=>(putT t dd v)[i]?)=(guardT ops o).map fun i=>t[i]? :=fun {t o dd v} hn=>
  List.map_congr_left fun q hq=>put_get fun d hd hdq=>hn d hd (hdq▸guardT_looks hq)
 have hb3:∀a b c b' c':Bool,andT (andT (andT (andT a b) b') c) c'=andT (andT (andT (andT a c) c') b) b':=by decide
 have skip:∀{s s1:St} {j:Nat} {o:Oper},wantS ops s.t o=some false→stepD P Γ G k ops n m j o s=some (⟨putT s.t o.dst (.tup []),s.h,s.ob⟩,⟨0,none,none,(guardT ops o).map fun i=>s.t[i]?,.tup [],[]⟩):=fun {s s1 j o} hw=>(stepD_skip.2 ⟨hw,rfl,rfl⟩).1
 unfold pairC at hp
 split at hp
 ·
  rename_i hf hg
  obtain ⟨wx,gx,v,h',p,new,ox,rfl,rfl⟩:=stepD_plain.1 ⟨e1,hf⟩
  obtain ⟨wy,gy,v',h'',p',new',oy,rfl,rfl⟩:=stepD_plain.1 ⟨e2,hg⟩
  simp only at wy oy hp
  rw [wantS_put h1] at wy
  rw [dput h1] at oy
  rw [addrB_congr (ev_puts (t:=s.t) (v:=(takeS Γ.sym x.dst v).1) h1)] at hp
  obtain ⟨hh,o1,o2⟩:=opD_comm hG hx hlt hbit hp ox oy
  refine ⟨_,(stepD_plain.2 ⟨wy,gy,_,_,_,_,o1,rfl,?_⟩).1,?_⟩
  ·rw [addrB_congr (ev_puts (t:=s.t) (v:=(takeS Γ.sym x.dst v).1) h1),slput h1]
  ·have q:=(stepD_plain (P:=P) (G:=G) (k:=k) (n:=n) (i:=i) (ops:=ops) (m:=m) (o:=x) (s:=⟨putT s.t y.dst (takeS Γ.sym y.dst v').1,hh,andT (andT s.ob p') (takeS Γ.sym y.dst v').2⟩) (Γ:=Γ)).2
    ⟨by rw [wantS_put h3];exact wx,gx,v,h'',p,new,by rw [dput h3];exact o2,rfl,rfl⟩
   rw [q.1]
   congr 2
   ·refine St.mk.injEq .. |>.mpr ⟨putT_comm _ _ (fun d hd hdx=>h2 d hdx hd),rfl,(hb3 _ _ _ _ _).symm⟩
   ·exact Fp.mk.injEq .. |>.mpr ⟨rfl,addrB_congr (ev_puts h3),rfl,slput h3,rfl,rfl⟩
 ·rename_i hf hg;exact grow_plain hG h1 h2 h3 hp e1 e2 hf hg
 ·rename_i hf hg;exact plain_grow hG h1 h2 h3 hp e1 e2 hf hg
 ·rename_i hf hg
  obtain ⟨wx,rfl,rfl⟩:=stepD_skip.1 ⟨e1,hf⟩
  obtain ⟨wy,rfl,rfl⟩:=stepD_skip.1 ⟨e2,hg⟩
  simp only at wy
  rw [wantS_put h1] at wy
  refine ⟨_,(stepD_skip.2 ⟨wy,rfl,?_⟩).1,?_⟩
  ·rw [gdput h1]
  ·have q:=(stepD_skip (P:=P) (G:=G) (k:=k) (n:=n) (i:=i) (ops:=ops) (m:=m) (o:=x) (s:=⟨putT s.t y.dst (.tup []),s.h,s.ob⟩) (Γ:=Γ)).2 ⟨by rw [wantS_put h3];exact wx,rfl,rfl⟩
   rw [q.1]
   congr 2
   ·refine St.mk.injEq .. |>.mpr ⟨putT_comm _ _ (fun d hd hdx=>h2 d hdx hd),rfl,rfl⟩
   ·exact Fp.mk.injEq .. |>.mpr ⟨rfl,rfl,rfl,gdput h3,rfl,rfl⟩
 ·rename_i hf hg
  obtain ⟨wx,rfl,rfl⟩:=stepD_skip.1 ⟨e1,hf⟩
  obtain ⟨wy,gy,v',h'',p',new',oy,rfl,rfl⟩:=stepD_plain.1 ⟨e2,hg⟩
  simp only at wy oy
  rw [wantS_put h1] at wy
  rw [dput h1] at oy
  refine ⟨_,(stepD_plain.2 ⟨wy,gy,_,_,_,_,oy,rfl,?_⟩).1,?_⟩
  ·rw [addrB_congr (ev_puts (t:=s.t) (v:=.tup []) h1),slput h1]
  ·have q:=(stepD_skip (P:=P) (G:=G) (k:=k) (n:=n) (i:=i) (ops:=ops) (m:=m) (o:=x) (s:=⟨putT s.t y.dst (takeS Γ.sym y.dst v').1,h'',andT (andT s.ob p') (takeS Γ.sym y.dst v').2⟩) (Γ:=Γ)).2 ⟨by rw [wantS_put h3];exact wx,rfl,rfl⟩
   rw [q.1]
   congr 2
   ·refine St.mk.injEq .. |>.mpr ⟨putT_comm _ _ (fun d hd hdx=>h2 d hdx hd),rfl,rfl⟩
   ·exact Fp.mk.injEq .. |>.mpr ⟨rfl,rfl,rfl,gdput h3,rfl,rfl⟩
 ·rename_i hf hg
  obtain ⟨wx,gx,v,h',p,new,ox,rfl,rfl⟩:=stepD_plain.1 ⟨e1,hf⟩
  obtain ⟨wy,rfl,rfl⟩:=stepD_skip.1 ⟨e2,hg⟩
  simp only at wy
  rw [wantS_put h1] at wy
  refine ⟨_,(stepD_skip.2 ⟨wy,rfl,?_⟩).1,?_⟩
  ·rw [gdput h1]
  ·have q:=(stepD_plain (P:=P) (G:=G) (k:=k) (n:=n) (i:=i) (ops:=ops) (m:=m) (o:=x) (s:=⟨putT s.t y.dst (.tup []),s.h,s.ob⟩) (Γ:=Γ)).2
    ⟨by rw [wantS_put h3];exact wx,gx,v,h',p,new,by rw [dput h3];exact ox,rfl,rfl⟩
   rw [q.1]
   congr 2
   ·refine St.mk.injEq .. |>.mpr ⟨putT_comm _ _ (fun d hd hdx=>h2 d hdx hd),rfl,rfl⟩
   ·exact Fp.mk.injEq .. |>.mpr ⟨rfl,addrB_congr (ev_puts h3),rfl,slput h3,rfl,rfl⟩
 ·
  rename_i hf hg
  obtain ⟨wx,gx,r,hr,hn,rfl,rfl⟩:=stepD_grow.1 ⟨e1,hf⟩
  obtain ⟨wy,rfl,rfl⟩:=stepD_skip.1 ⟨e2,hg⟩
  simp only at wy hp
  obtain ⟨b,ps,B,hk,hb,hh,hu,hall⟩:=opS_grow (growD_app gx) hr hn
  rw [hk] at wy hp
  simp only [List.all_eq_true] at hp
  have same:∀q∈guardT ops y,(putT (killT (some b) s.t) x.dst r.v)[q]? =s.t[q]? :=fun q hq=>by
   have h0:=hp _ (List.mem_map_of_mem hq)
   have hne:∀d,x.dst=some d→d≠q:=fun d hd hdq=>h1 d hd (hdq▸guardT_looks hq)
   rw [put_get hne] at h0
   rw [put_get hne,killT_get (killT_back h0)]
  rw [wantS_same same] at wy
  refine ⟨_,(stepD_skip.2 ⟨wy,rfl,?_⟩).1,?_⟩
  ·simp only [hk]
   refine Fp.mk.injEq .. |>.mpr ⟨rfl,rfl,rfl,List.map_congr_left same,rfl,rfl⟩
  ·have hpx:∀z∈x.op.operands,ev (putT s.t y.dst (.tup [])) z=ev s.t z:=ev_puts h3
   have q:=(stepD_grow (P:=P) (G:=G) (k:=k) (n:=n) (i:=i) (ops:=ops) (m:=m) (o:=x) (s:=⟨putT s.t y.dst (.tup []),s.h,s.ob⟩) (Γ:=Γ)).2
    ⟨by rw [wantS_put h3];exact wx,gx,r,by rw [opS_congr x hpx];exact hr,hn,rfl,rfl⟩
   rw [q.1]
   congr 2
   ·simp only [hk]
    refine St.mk.injEq .. |>.mpr ⟨?_,rfl,rfl⟩
    rw [killT_put rfl,putT_comm _ _ (fun d hd hdx=>h2 d hdx hd)]
   ·exact Fp.mk.injEq .. |>.mpr ⟨rfl,rfl,srcB_congr hpx,rfl,rfl,rfl⟩
 ·rename_i hf hg
  obtain ⟨wx,rfl,rfl⟩:=stepD_skip.1 ⟨e1,hf⟩
  obtain ⟨wy,gy,r,hr,hn,rfl,rfl⟩:=stepD_grow.1 ⟨e2,hg⟩
  simp only at wy hr hp
  rw [wantS_put h1] at wy
  have hpy:∀z∈y.op.operands,ev (putT s.t x.dst (.tup [])) z=ev s.t z:=ev_puts h1
  rw [opS_congr y hpy] at hr
  obtain ⟨b,ps,B,hk,hb,hh,hu,hall⟩:=opS_grow (growD_app gy) hr hn
  rw [hk] at hp
  simp only [List.all_eq_true] at hp
  have same:∀q∈guardT ops x,(putT (killT (some b) s.t) y.dst r.v)[q]? =s.t[q]? :=fun q hq=>by
   have h0:=hp _ (List.mem_map_of_mem hq)
   rw [put_get (fun d hd hdq=>h3 d hd (hdq▸guardT_looks hq)),killT_get h0]
  refine ⟨⟨putT (killT r.kill s.t) y.dst r.v,r.h,andT s.ob r.p⟩,?_,?_⟩
  ·have q:=(stepD_grow (P:=P) (G:=G) (k:=k) (n:=n) (i:=i') (ops:=ops) (m:=m) (o:=y) (s:=s) (Γ:=Γ)).2 ⟨wy,gy,r,hr,hn,rfl,rfl⟩
   rw [q.1]
   congr 2
   exact Fp.mk.injEq .. |>.mpr ⟨rfl,rfl,(srcB_congr hpy).symm,rfl,rfl,rfl⟩
  ·have q:=(stepD_skip (P:=P) (G:=G) (k:=k) (n:=n) (i:=i) (ops:=ops) (m:=m) (o:=x) (s:=⟨putT (killT r.kill s.t) y.dst r.v,r.h,andT s.ob r.p⟩) (Γ:=Γ)).2 ⟨by rw [hk,wantS_same same];exact wx,rfl,rfl⟩
   rw [q.1]
   congr 2
   ·simp only [hk]
    refine St.mk.injEq .. |>.mpr ⟨?_,rfl,rfl⟩
    rw [killT_put rfl,putT_comm _ _ (fun d hd hdx=>h2 d hdx hd)]
   ·simp only [hk]
    exact Fp.mk.injEq .. |>.mpr ⟨rfl,rfl,rfl,List.map_congr_left same,rfl,rfl⟩
 ·cases hp
theorem stepD_ob {Γ:Ctr} {G:CallFn} {k n i:Nat} {ops:Array Oper} {m:List Nat} {o:Oper} {s s':St} {f:Fp} (e:stepD P Γ G k ops n m i o s=some (s',f)) (h:s'.ob=true):s.ob=true:=by
 unfold stepD at e
 split at e
 ·split at e
  ·split at e
   ·split at e
    ·cases e;simp only [andT_iff] at h;exact h.1
    ·cases e
   ·cases e
  ·split at e
   ·cases e;simp only [andT_iff] at h;exact h.1.1
   ·cases e
 ·cases e;exact h
 ·cases e
def RunD (P:Program) (Γ:Ctr) (G:CallFn) (k:Nat) (ops:Array Oper) (n:Nat) (m:List Nat) (φ:Nat→Fp):List Nat→St→St→Prop
 | [],s,s'=>s=s'
 |i::is,s,s'=>∃o s1,ops.toList[i]? =some o∧stepD P Γ G k ops n m i o s=some (s1,φ i)∧RunD P Γ G k ops n m φ is s1 s'
theorem runD_rel {Γ:Ctr} {G:CallFn} {k n:Nat} {ops:Array Oper} {m:List Nat} {φ:Nat→Fp}:∀(is:List Nat) (s s':St) (fs:List Fp),runD P Γ G k ops n m is s=some (s',fs)→fs.length=is.length∧((∀(r i:Nat),is[r]? =some i→fs[r]? =some (φ i))→RunD P Γ G k ops n m φ is s s')
 | [],s,s',fs,e=>by simp only [runD,Option.some.injEq,Prod.mk.injEq] at e;obtain ⟨rfl,rfl⟩:=e;exact ⟨rfl,fun _=>rfl⟩
 |i::is,s,s',fs,e=>by
  simp only [runD] at e
  split at e
  ·cases e
  ·rename_i o ho
   split at e
   ·rename_i s1 f h1
    split at e
    ·rename_i s2 gs h2
     simp only [Option.some.injEq,Prod.mk.injEq] at e
     obtain ⟨rfl,rfl⟩:=e
     obtain ⟨q1,q2⟩:=runD_rel (φ:=φ) is s1 s2 gs h2
     refine ⟨by simp [q1],fun hφ=>⟨o,s1,ho,?_,q2 fun r j hr=>?_⟩⟩
     ·have:=hφ 0 i rfl
      simp only [List.getElem?_cons_zero,Option.some.injEq] at this
      rw [←this];exact h1
     ·have:=hφ (r+1) j (by simpa using hr)
      simpa using this
    ·cases e
   ·cases e
theorem RunD_ob {Γ:Ctr} {G:CallFn} {k n:Nat} {ops:Array Oper} {m:List Nat} {φ:Nat→Fp}:∀(is:List Nat) (s s':St),RunD P Γ G k ops n m φ is s s'→s'.ob=true→s.ob=true
 | [],s,s',e,h=>by rw [RunD] at e;subst e;exact h
 |i::is,s,s',⟨_,s1,_,h1,h2⟩,h=>stepD_ob h1 (RunD_ob is s1 s' h2 h)
theorem runD_ob {Γ:Ctr} {G:CallFn} {k n:Nat} {ops:Array Oper} {m:List Nat}:∀(is:List Nat) (s s':St) (fs:List Fp),runD P Γ G k ops n m is s=some (s',fs)→s'.ob=true→s.ob=true
 | [],s,s',fs,e,h=>by simp only [runD,Option.some.injEq,Prod.mk.injEq] at e;obtain ⟨rfl,rfl⟩:=e;exact h
 |i::is,s,s',fs,e,h=>by
  simp only [runD] at e
  split at e
  ·cases e
  ·split at e
   ·rename_i s1 f h1
    split at e
    ·rename_i s2 gs h2
     simp only [Option.some.injEq,Prod.mk.injEq] at e
     obtain ⟨rfl,rfl⟩:=e
     exact stepD_ob h1 (runD_ob is s1 s2 gs h2 h)
    ·cases e
   ·cases e
theorem runD_first {Γ:Ctr} {G:CallFn} (hG:PureC Γ.pf G) {k n:Nat} {ops:Array Oper} {m:List Nat} {φ:Nat→Fp} {i:Nat} {y:Oper} (hi:ops.toList[i]? =some y):∀(pre post:List Nat) (s s':St),
  (∀j∈pre,j<i∧∀x,ops.toList[j]? =some x→(m.getD i 0).testBit j=false∧x.apart ops y=true∧pairC P Γ ops.toList n j x (φ j) i y (φ i)=true)→RunD P Γ G k ops n m φ (pre++i::post) s s'→∃s1,stepD P Γ G k ops n m i y s=some (s1,φ i)∧RunD P Γ G k ops n m φ (pre++post) s1 s'
 | [],post,s,s',_,e=>by
  obtain ⟨o,s1,ho,h1,h2⟩:=e
  rw [hi] at ho;cases ho
  exact ⟨s1,h1,h2⟩
 |j::pre,post,s,s',hc,e=>by
  obtain ⟨x,s0,hx,h0,e⟩:=e
  obtain ⟨s1,h1,h2⟩:=runD_first hG hi pre post s0 s' (fun k hk=>hc k (by simp [hk])) e
  obtain ⟨hji,hjx⟩:=hc j (by simp)
  obtain ⟨hb,hap,hcm⟩:=hjx x hx
  obtain ⟨s2,h3,h4⟩:=stepD_comm hG hx hji hb hap hcm h0 h1
  exact ⟨s2,h3,x,s1,hx,h4,h2⟩
theorem wpOpD_sound {Γ:Ctr} {G:CallFn} (hG:GSound P G) {k n nn:Nat} {ro:Option Nat} {m:List Nat} {ops:Array Oper} {o:Oper} {i:Nat} (hi:ops[i]? =some o) {s s':St} {f:Fp} (g:stepD P Γ G k ops n m i o s=some (s',f)) (hob:s'.ob=true)
  {B:Base} {e:Env} {w:World} {t':List Value} {d:List Deferred} {Q:Exit→Act→World→Prop} {K:Act→World→Prop} (hk:∀i p,B.e.r i=some p→i<k) (hl:TR e s.t t') (R:Rel B e s.h w)
  (hK:∀e' w' t'',e'.m=e.m→TR e' s'.t t''→Rel B e' s'.h w'→K ⟨⟨t''⟩,d⟩ w'):wpOpIn (wF ro) nn P ops Q i K ⟨⟨t'⟩,d⟩ w:=by
 unfold stepD at g
 unfold wpOpIn
 rw [hi]
 simp only []
 split at g
 ·rename_i hw
  rw [if_pos (wantS_sound hl hw)]
  split at g
  ·split at g
   ·rename_i r hr
    split at g
    ·rename_i hnew
     cases g
     simp only [andT_iff] at hob
     refine oper_sound hG hr hob.2 (.inr fun a ha=>?_) hk hl R fun e' v' w' hv R' hst=>?_
     ·rw [hnew] at ha;exact absurd ha (Nat.not_lt_zero _)
     obtain ⟨t'',q,hl'⟩:=TR.put (d:=d) (o:=o.dst) (hst.slots hl) hv
     rw [q]
     refine hK e' w' t'' hst.m hl' ?_
     rw [hnew,placeH_nil] at R'
     exact R'
    ·cases g
   ·cases g
  split at g
  ·rename_i q hop
   obtain ⟨v,h',p,nw⟩:=q
   obtain ⟨_,r,hr,hkill,hnew,hgap,hlen,rfl,rfl,rfl,rfl⟩:=opD_eq.1 hop
   cases g
   simp only [andT_iff] at hob
   refine oper_sound hG hr hob.1.2 (.inr fun a ha=>?_) hk hl R fun e' v' w' hv R' hst=>?_
   ·rw [gapsAt_iff] at hgap;exact hgap a (by omega)
   rw [takeS_eq hob.2] at hK
   rw [hkill] at hst
   obtain ⟨t'',q,hl'⟩:=TR.put (d:=d) (o:=o.dst) (hst.slots hl) hv
   rw [q]
   refine hK e' w' t'' hst.m hl' ?_
   have hpl:placeH r.h (resv Γ.nb ops.toList n i) r.new=fillH r.h (resv Γ.nb ops.toList n i) r.new:=by
    unfold placeH
    split
    ·rename_i hj
     have:r.new=[]:=by
      cases hq:r.new with
      |nil=>rfl
      |cons b bs=>
       exfalso
       have hpos:0<nmk Γ.nb o.op:=by rw [←hnew,hq];simp
       have:=(gapsAt_iff.1 hgap) 0 hpos
       have:=(List.getElem?_eq_some_iff.1 this).1
       omega
     rw [this];simp [fillH]
    ·rfl
   rw [hpl] at R'
   exact R'
  ·cases g
 ·rename_i hw
  cases g
  rw [if_neg (by rw [wantS_sound hl hw];simp)]
  obtain ⟨t'',q,hl'⟩:=TR.put (d:=d) (o:=o.dst) hl (VR.empty (e:=e))
  rw [q]
  exact ⟨fun _ _=>trivial,hK e w t'' rfl hl' R⟩
 ·cases g
theorem wpAny_ops {Γ:Ctr} {G:CallFn} (hG:GSound P G) (hP:PureC Γ.pf G) {k n nn:Nat} {ro:Option Nat} {ops:Array Oper} {fs:List Fp} (hd:drawOK P Γ n fs ops=true):∀(fuel:Nat) (listed:Array Bool) (s s':St),listed.size=ops.size→Closed ops.toList listed→
  ((List.range ops.size).filter fun i=>!listed.getD i true).length=fuel→
  RunD P Γ G k ops n (masks ops.toList []) (fpAt fs) ((List.range ops.size).filter fun i=>!listed.getD i true) s s'→s'.ob=true→
  ∀{B:Base} {e:Env} {w:World} {t':List Value} {d:List Deferred} {Q:Exit→Act→World→Prop},(∀i p,B.e.r i=some p→i<k)→TR e s.t t'→Rel B e s.h w→
  (∀e' w' t'',e'.m=e.m→TR e' s'.t t''→Rel B e' s'.h w'→Q .normal ⟨⟨t''⟩,d⟩ w')→wpAnyIn (wF ro) nn P .any ops Q fuel listed ⟨⟨t'⟩,d⟩ w:=by
 have hd':∀(j:Nat) (y:Oper),ops.toList[j]? =some y→(∀e∈y.after.toList,Region.binds .any e=true→e.on<j)∧
   ∀(i:Nat) (x:Oper),i<j→ops.toList[i]? =some x→((masks ops.toList []).getD j 0).testBit i=true∨commB P Γ n fs ops i x j y=true:=by
  intro j y hy
  unfold drawOK at hd
  rw [List.all_eq_true] at hd
  have hmem:(y,j)∈ops.toList.zipIdx:=by
   rw [List.mk_mem_zipIdx_iff_getElem?];exact hy
  have h1:=hd _ hmem
  simp only [Bool.and_eq_true,List.all_eq_true,Bool.or_eq_true,Bool.not_eq_true',decide_eq_true_eq] at h1
  refine ⟨fun e he hb=>(h1.1 e he).resolve_left (by simp [hb]),fun i x hij hx=>?_⟩
  have h2:(x,i)∈ops.toList.zipIdx.take j:=by
   rw [List.mem_iff_getElem?]
   refine ⟨i,?_⟩
   rw [List.getElem?_take_of_lt hij,List.getElem?_zipIdx,hx]
   simp
  exact h1.2 _ h2
 have hready:∀(listed:Array Bool) (i:Nat),i∈Region.ready .any ops listed→i∈(List.range ops.size).filter fun i=>!listed.getD i true:=fun listed i hi=>by
  obtain ⟨h1,o,ho,_⟩:=mem_ready.1 hi
  rw [List.mem_filter,List.mem_range]
  exact ⟨(Array.getElem?_eq_some_iff.1 ho).1,by simp only [h1,Bool.not_false]⟩
 intro fuel
 induction fuel with
 |zero=>
  intro listed s s' _ _ hlen hr hob B e w t' d Q hk hl R hQ
  have hnil:=List.length_eq_zero_iff.1 hlen
  rw [hnil] at hr
  rw [RunD] at hr
  subst hr
  refine ⟨?_,hQ e w t' rfl hl R⟩
  cases hrd:Region.ready .any ops listed with
  |nil=>rfl
  |cons i l=>
   have:=hready listed i (by rw [hrd];simp)
   rw [hnil] at this
   cases this
 |succ fuel ih=>
  intro listed s s' hsz hcl hlen hr hob B e w t' d Q hk hl R hQ
  refine ⟨fun hnil=>?_,fun i hi=>?_⟩
  ·
   exfalso
   cases hL:(List.range ops.size).filter fun i=>!listed.getD i true with
   |nil=>rw [hL] at hlen;cases hlen
   |cons i0 l=>
    have hi0:i0∈(List.range ops.size).filter fun i=>!listed.getD i true:=by rw [hL];simp
    rw [List.mem_filter,List.mem_range] at hi0
    have hsorted:((List.range ops.size).filter fun i=>!listed.getD i true).Pairwise (· < ·):=List.Pairwise.filter _ List.pairwise_lt_range
    have hmin:∀j,j<i0→listed.getD j false=true:=fun j hj=>by
     cases hq:listed.getD j true with
     |true=>
      have hjs:j<listed.size:=by rw [hsz];omega
      simp [hjs] at hq ⊢;exact hq
     |false=>
      have hm:j∈(List.range ops.size).filter fun i=>!listed.getD i true:=by
       rw [List.mem_filter,List.mem_range];exact ⟨by omega,by simp only [hq,Bool.not_false]⟩
      rw [hL] at hm hsorted
      rcases List.mem_cons.1 hm with rfl|hm
      ·omega
      ·have:=(List.pairwise_cons.1 hsorted).1 j hm;omega
    have ho:=Array.getElem?_eq_getElem (xs:=ops) hi0.1
    have:i0∈Region.ready .any ops listed:=by
     refine mem_ready.2 ⟨by simpa using hi0.2,_,ho,fun e he hb=>hmin e.on ?_⟩
     exact (hd' i0 _ (by rw [Array.getElem?_toList];exact ho)).1 e (by simpa using he) hb
    rw [hnil] at this
    cases this
  ·obtain ⟨hun,o,ho,hpre⟩:=mem_ready.1 hi
   have hil:=hready listed i hi
   obtain ⟨pre,post,hsplit⟩:=List.append_of_mem hil
   have hsorted:((List.range ops.size).filter fun i=>!listed.getD i true).Pairwise (· < ·):=List.Pairwise.filter _ List.pairwise_lt_range
   rw [hsplit] at hr hsorted
   have hprelt:∀j∈pre,j<i:=fun j hj=>(List.pairwise_append.1 hsorted).2.2 j hj i (by simp)
   have hpostgt:∀j∈post,i<j:=fun j hj=>(List.pairwise_cons.1 (List.pairwise_append.1 hsorted).2.1).1 j hj
   have hol:ops.toList[i]? =some o:=by simpa using ho
   have hmk:=masks_ok ops.toList [] [] rfl (fun i o hi=>by simp at hi)
   have hml:(masks ops.toList []).length=ops.toList.length:=by rw [masks_length];simp
   have hcomm:∀j∈pre,j<i∧∀x,ops.toList[j]? =some x→((masks ops.toList []).getD i 0).testBit j=false∧x.apart ops o=true∧pairC P Γ ops.toList n j x (fpAt fs j) i o (fpAt fs i)=true:=fun j hj=>⟨hprelt j hj,fun x hx=>by
    have hnb:((masks ops.toList []).getD i 0).testBit j=false:=by
     cases hb:((masks ops.toList []).getD i 0).testBit j with
     |false=>rfl
     |true=>
      exfalso
      have h2:=closed_mask (by simpa using hmk) hml hcl i i o (Nat.le_refl _) hol (fun e he hb=>hpre e (by simpa using he) hb) j hb
      have hjm:j∈(List.range ops.size).filter fun i=>!listed.getD i true:=by rw [hsplit];simp [hj]
      rw [List.mem_filter] at hjm
      have hjs:j<listed.size:=by rw [hsz];exact List.mem_range.1 hjm.1
      have h3:=hjm.2
      simp [hjs] at h2 h3
      rw [h2] at h3
      cases h3
    refine ⟨hnb,?_⟩
    rcases (hd' i o hol).2 j x (hprelt j hj) hx with h1|h1
    ·rw [hnb] at h1;cases h1
    ·unfold commB at h1
     rw [Bool.and_eq_true] at h1
     exact h1⟩
   obtain ⟨s1,h1,h2⟩:=runD_first (P:=P) hP hol pre post s s' hcomm hr
   refine wpOpD_sound hG ho h1 (RunD_ob _ _ _ h2 hob) hk hl R fun e' w' t'' hm' hl' R'=>?_
   have hfil:(List.range ops.size).filter (fun j=>!(listed.setIfInBounds i true).getD j true)=pre++post:=by
    have e1:∀j,(listed.setIfInBounds i true).getD j true=(listed.getD j true||decide (j=i)):=fun j=>by
     by_cases hij:i=j
     ·subst hij
      have his:i<listed.size:=by rw [hsz];exact (Array.getElem?_eq_some_iff.1 ho).1
      simp [his]
     ·rw [getD_set_ne true hij]
      have:¬j=i:=fun q=>hij q.symm
      simp [this]
    have e2:(List.range ops.size).filter (fun j=>!(listed.setIfInBounds i true).getD j true)=((List.range ops.size).filter fun j=>!listed.getD j true).filter fun j=>decide (j≠i):=by
     rw [List.filter_filter]
     apply List.filter_congr
     intro j _
     rw [e1 j]
     by_cases hji:j=i<;>simp [hji]
    rw [e2,hsplit,List.filter_append,List.filter_cons]
    have e3:pre.filter (fun j=>decide (j≠i))=pre:=List.filter_eq_self.2 fun j hj=>by have:=hprelt j hj;simp;omega
    have e4:post.filter (fun j=>decide (j≠i))=post:=List.filter_eq_self.2 fun j hj=>by have:=hpostgt j hj;simp;omega
    rw [e3,e4]
    simp
   refine ih (listed.setIfInBounds i true) s1 s' (by simp [hsz]) ?_ ?_ (by rw [hfil];exact h2) hob hk hl' R' fun e2 w2 t2 hm2 hl2 R2=>hQ e2 w2 t2 (hm2.trans hm') hl2 R2
   ·intro j x hx hlj e hes hb
    by_cases hij:i=j
    ·subst hij
     rw [hol] at hx;cases hx
     exact getD_set_true (hpre e (by simpa using hes) hb)
    ·rw [getD_set_ne false hij] at hlj
     exact getD_set_true (hcl j x hx hlj e hes hb)
   ·rw [hfil]
    rw [hsplit] at hlen
    simp at hlen ⊢
    omega
theorem Rel.gaps {B:Base} {e:Env} {h:List Blk} {w:World} (R:Rel B e h w) (n:Nat):Rel B e (h++List.replicate n .gap) w:=
 {os:=R.os,tape:=R.tape,output:=R.output,size:=R.size,inj:=R.inj,dom:=fun i p hi=>by have:=R.dom i p hi;simp;omega,sep:=R.sep,zok:=R.zok,zfresh:=R.zfresh,glb:=R.glb,news:=R.news,keepr:=R.keepr,keepz:=R.keepz,n0:=R.n0,n0le:=R.n0le,
  blk:=fun i ps hi=>by
   rcases Nat.lt_or_ge i h.length with h1|h1
   ·rw [List.getElem?_append_left h1] at hi;exact R.blk i ps hi
   ·rw [List.getElem?_append_right h1,List.getElem?_replicate] at hi;split at hi<;>cases hi
  gap:=fun i g hi=>by
   rcases Nat.lt_or_ge i h.length with h1|h1
   ·rw [List.getElem?_append_left h1] at hi;exact R.gap i g hi
   ·refine ⟨?_,?_⟩
    ·cases hq:e.r i with
     |none=>rfl
     |some p=>have:=R.dom i p hq;omega
    ·rw [List.getElem?_append_right h1,List.getElem?_replicate] at hi
     split at hi
     ·cases hi;trivial
     ·cases hi
  yi:=R.yi,yb:=R.yb,old:=R.old,win:=R.win,kr:=R.kr,kle:=by have:=R.kle;simp;omega,mks:=R.mks,mnd:=R.mnd}
theorem region_draw_sound {Γ:Ctr} {G:CallFn} (hG:GSound P G) (hP:PureC Γ.pf G) {k nn:Nat} {ro:Option Nat} {ops:Array Oper} (hm:P.follows .mixedOrders=true) {s s':St} {fs:List Fp} (hd:drawOK P Γ s.h.length fs ops=true)
  (hr:runD P Γ G k ops s.h.length (masks ops.toList []) (List.range ops.size) ⟨s.t,s.h++List.replicate (makes Γ.nb ops.toList) .gap,s.ob⟩=some (s',fs)) (hob:s'.ob=true)
  {B:Base} {e:Env} {w:World} {t':List Value} {d:List Deferred} {Q:Exit→Act→World→Prop} (hk:∀i p,B.e.r i=some p→i<k) (hl:TR e s.t t') (R:Rel B e s.h w)
  (hQ:∀e' w' t'',e'.m=e.m→TR e' s'.t t''→Rel B e' s'.h w'→Q .normal ⟨⟨t''⟩,d⟩ w') (id:Nat):(Code.region id ops true).wpIn (wF ro) nn P Q ⟨⟨t'⟩,d⟩ w:=by
 refine wpIn_region_any hm ?_
 have hall:(List.range ops.size).filter (fun i=>!(Array.replicate ops.size false).getD i true)=List.range ops.size:=List.filter_eq_self.2 fun i hi=>by
  rw [List.mem_range] at hi;simp [hi]
 have hrun:RunD P Γ G k ops s.h.length (masks ops.toList []) (fpAt fs) (List.range ops.size) ⟨s.t,s.h++List.replicate (makes Γ.nb ops.toList) .gap,s.ob⟩ s':=by
  obtain ⟨q1,q2⟩:=runD_rel (φ:=fpAt fs) _ _ _ _ hr
  refine q2 fun r i hri=>?_
  have hr0:r<(List.range ops.size).length:=(List.getElem?_eq_some_iff.1 hri).1
  have hr1:r<ops.size:=by simpa using hr0
  rw [List.getElem?_range hr1] at hri
  cases hri
  have hlt:r<fs.length:=by rw [q1];exact hr0
  unfold fpAt
  rw [List.getElem?_eq_getElem hlt]
 refine wpAny_ops hG hP hd ops.size _ ⟨s.t,s.h++List.replicate (makes Γ.nb ops.toList) .gap,s.ob⟩ s' (by simp) ?_ (by rw [hall];simp) (by rw [hall];exact hrun) hob hk hl ((R.gaps _).drawn _) hQ
 intro j o ho hlj
 rw [show (Array.replicate ops.size false).getD j false=false from by rw [Array.getD_eq_getD_getElem?,Array.getElem?_replicate];split<;>rfl] at hlj
 cases hlj
theorem runOps_sound {G:CallFn} (hG:GSound P G) {sym:Tmp→Option Bool} {inp:Tmp→Bool} {k n:Nat} {ro:Option Nat} {ops:Array Oper}:∀(is:List Nat) (s s':St),runOps P G sym inp k ops is s=some s'→s'.ob=true→
  ∀{B:Base} {e:Env} {w:World} {t':List Value} {d:List Deferred} {Q:Exit→Act→World→Prop},(∀i p,B.e.r i=some p→i<k)→TR e s.t t'→Rel B e s.h w→
  (∀e' w' t'',e'.m=e.m→TR e' s'.t t''→Rel B e' s'.h w'→Q .normal ⟨⟨t''⟩,d⟩ w')→wpOpsIn (wF ro) n P ops Q is ⟨⟨t'⟩,d⟩ w
 | [],s,s',g,_,B,e,w,t',d,Q,hk,hl,R,hQ=>by
  simp only [runOps,Option.some.injEq] at g;subst g
  exact hQ e w t' rfl hl R
 |i::is,s,s',g,hob,B,e,w,t',d,Q,hk,hl,R,hQ=>by
  simp only [runOps] at g
  have hi:ops[i]? =ops.toList[i]? :=by simp
  rw [wpOpsIn_cons]
  split at g
  ·rename_i hn
   rw [←hi] at hn
   simp only [wpOpIn,hn]
   exact runOps_sound hG is s s' g hob hk hl R hQ
  ·rename_i o ho
   rw [←hi] at ho
   split at g
   ·rename_i s1 h1
    refine wpOp_sound hG ho h1 (runOps_ob is s1 s' g hob) hk hl R fun e' w' t'' hm hl' R'=>?_
    exact runOps_sound hG is s1 s' g hob hk hl' R' fun e2 w2 t2 hm2 hl2 R2=>hQ e2 w2 t2 (hm2.trans hm) hl2 R2
   ·cases g
end
end Go.Sy
