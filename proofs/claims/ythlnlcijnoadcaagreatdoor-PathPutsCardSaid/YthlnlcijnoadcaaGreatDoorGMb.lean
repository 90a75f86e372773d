/- This file proves assertions, appends, copies and what strings come to sound. Conditions: those of the interpreter's own tests. -/
import Derived.IntWalk
import Derived.Test.YthlnlcijnoadcaaGreatDoorGMa
import Derived.Laws.BytesString
import Derived.Laws.BytesArg
import Derived.RangeFuncIn
import Derived.RangeFuncRecord
noncomputable section
open Go.IntKind (i64 u8 u64 u32)
set_option linter.all false
namespace Go.Sy
open Go
section
variable {P:Program} {e:Env} {B:cP} {h:List Blk} {w:World}
theorem uV {asserted xT:TypeId} {ok:Bool} {x v:SV} {x':Value} (hs:wu P asserted ok x=some v) (hx:VR e x x'):∃v',(Instr.typeAssert x' xT asserted ok).run P w= .ok v' w/\VR e v v':=by
 unfold wu at hs
 split at hs
 ·rename_i t y
  obtain ⟨y',hy,rfl⟩:=hx
  split at hs
  ·cases hs
  ·rename_i d hni hu
   split at hs
   ·rename_i ht
    subst ht
    cases hs
    refine ⟨match ok with|true=>.tuple ⟨[y',.bool true]⟩|false=>y',?_,?_⟩
    ·unfold Instr.typeAssert
     rw [aaq,aas hu,aak]
     cases d<;>first|exact (hni _ rfl).elim|(simp only [if_true];cases ok<;>rfl)
    ·cases ok
     ·exact hy
     ·exact ⟨_,⟨y',_,hy,⟨.bool true,[],rfl,rfl,rfl⟩,rfl⟩,rfl⟩
   ·rename_i ht
    split at hs
    ·rename_i z hz
     cases hs
     obtain ⟨zv,h1,h2⟩:=aaF.1 hz
     refine ⟨.tuple ⟨[zv,.bool false]⟩,?_,_,⟨zv,_,jT h2,⟨.bool false,[],rfl,rfl,rfl⟩,rfl⟩,rfl⟩
     unfold Instr.typeAssert
     rw [aaq,aas hu,aak]
     cases d<;>first|exact (hni _ rfl).elim|(simp only [aaC ht,if_true,aaq,fy h1,aak,aax])
    ·cases hs
  ·cases hs
 ·rw [VR] at hx;subst hx
  split at hs
  ·cases hs
  ·rename_i d z hni hu hz
   cases hs
   obtain ⟨zv,h1,h2⟩:=aaF.1 hz
   refine ⟨.tuple ⟨[zv,.bool false]⟩,?_,_,⟨zv,_,jT h2,⟨.bool false,[],rfl,rfl,rfl⟩,rfl⟩,rfl⟩
   unfold Instr.typeAssert
   rw [aaq,aas hu,aak]
   cases d<;>first|exact (hni _ rfl).elim|(simp only [if_true,aaq,fy h1,aak,aax])
  ·cases hs
 ·cases hs
theorem eO {n a m z len cap:Nat} {c:Array Value} {t:TypeId} {fr:Nat×Nat} (hb:w.heap[n]? =some (.cells c t fr)) (hl:a+m*z<=c.size):
  (Builtin.firstCells z m (.slice (some ⟨n,a,none⟩) len cap)).run P w= .ok ((c.toList.drop a).take (m*z)).toArray w:=by
 have hlen:((c.toList.drop a).take (m*z)).length=m*z:=by simp;omega
 refine run_firstCells_some w z m ⟨n,a,none⟩ len cap _ hlen λj v hv=>?_
 rw [dP]
 apply cell_of hb
 have hj:j<m*z:=by
  have:=(aal.1 hv).1
  omega
 rwa [aa9 hj,aaQ] at hv
theorem iX {z:Nat} {a:Option Addr} {len cap:Nat}:(Builtin.firstCells z 0 (.slice a len cap)).run P w= .ok #[] w:=by
 cases a with
 |none=>simp [Builtin.firstCells]
 |some a=>exact run_firstCells_some w z 0 a len cap [] (by simp) (by simp)
theorem eP {l:List Value} {a b:Nat} (h:a<=b):(l.take b).take a=l.take a:=by rw [adD,ab6 h]
theorem sS {z n:Nat} {g:Nat->List SV} {c:List Value} {o:Nat} (hg:∀i,i<n->PR ⟨λ_=>none,e.z,e.n0,[],λ_=>none⟩ (g i) ((c.drop (o+i*z)).take z)) (hl:o+n*z<=c.length):PR e [.rows z n g] ((c.drop o).take (n*z)):=by
 refine ⟨_,[],?_,λi hi=>?_,rfl,(aaz _).symm⟩
 ·rw [aaU,aaN];omega
 ·have hi2:i*z+z<=n*z:=by
   have:=aaD z (Nat.succ_le_of_lt hi)
   rw [Nat.succ_mul] at this;exact this
  rw [adi,adD,aa4,ab6 (by omega)]
  exact hg i hi
theorem aY (R:Rel B e h w) {y:SV} {y':Value} {cy:List SV} {n z:Nat} (hc:cu h y=some (cy,true)) (hn:oK y=some n) (hy:VR e y y') (hrow:cj z y=true):
  ∃ys,PR e cy ys/\ys.length=n*z/\(Builtin.lenOf y').run P w= .ok n w/\∀m,m<=n->(Builtin.firstCells z m y').run P w= .ok (ys.take (m*z)).toArray w:=by
 have oU:∀{a:Option Addr} {cap:Nat},n=0->y'= .slice a 0 cap->PR e cy []->∃ys,PR e cy ys/\ys.length=n*z/\(Builtin.lenOf y').run P w= .ok n w/\∀m,m<=n->(Builtin.firstCells z m y').run P w= .ok (ys.take (m*z)).toArray w:=λ{a cap} h0 hy' hp=>by
  subst h0 hy'
  refine ⟨[],hp,by simp,rfl,λm hm=>?_⟩
  obtain rfl:m=0:=by omega
  rw [iX];simp
 unfold cu at hc
 split at hc
 ·-- ro
  rename_i f k xs
  simp only [No,aae,aeJ] at hc
  subst hc
  simp only [oK,No] at hn;subst hn
  obtain rfl:z=1:=aaA hrow
  rcases hy with ⟨rfl,a,cap,hv,_⟩|⟨n,o,cap,c,t,fr,rfl,hz,_,hq,hcap,hfit⟩
  ·exact oU rfl hv ⟨[],rfl,rfl⟩
  ·have hb:=R.eU _ _ _ _ hz
   refine ⟨aU k xs,⟨[],rfl,by rw [bN rfl,aaz]⟩,by simp [aF],rfl,λm hm=>?_⟩
   rw [eO hb (by omega),hq,eP (by omega)]
 ·-- str
  rename_i xs
  simp only [No,aae,aeJ] at hc
  subst hc
  simp only [oK,No] at hn;subst hn
  obtain rfl:z=1:=aaA hrow
  obtain ⟨s,rfl,rfl⟩:=hy
  refine ⟨aU .u8 (gR s),⟨[],rfl,by rw [bN rfl,aaz]⟩,by simp [aF],by rw [eH];rfl,λm hm=>?_⟩
  rw [eH] at hm
  show Result.ok _ w=_
  congr 1
  apply adV
  simp [aU,gR,List.extract_eq_take_drop]
  rfl
 ·-- nil
  simp only [No,aae,aeJ] at hc
  subst hc
  simp only [oK,No] at hn;subst hn
  rw [VR] at hy
  exact oU rfl hy rfl
 ·-- a tracked block
  rename_i b o i z0 len cap ex wh
  simp only [oK,No] at hn;subst hn
  have fR:z0=z:=aaA hrow
  subst fR
  split at hc
  ·rename_i ps hb
   rcases hy with ⟨rfl,rfl,a,hv⟩|⟨p,cap',a,hp,rfl,ha,_,_,hlen,hfit⟩
   ·refine oU rfl hv ?_
    split at hc
    ·split at hc<;>(simp only [No,aae] at hc;obtain ⟨rfl,_⟩:=hc;exact ⟨[],rfl,by simp [cG,aU]⟩)
    ·rename_i ps' hd JS
     rw [Nat.zero_mul] at hc
     obtain ⟨q,h1,h2⟩:=aag.1 hc
     simp only [aae,aeJ] at h2;subst h2
     unfold Da at h1
     obtain ⟨q',_,h3⟩:=aaF.1 h1
     have:lZ q' 0=some []:=by cases q'<;>rfl
     rw [this] at h3;cases h3
     exact rfl
    ·cases hc
   ·obtain ⟨c,t,hcell,hsz,jN,nt⟩:=R.block hp hb
    have fin:(∀m,m<=len->len≠0->a=p.base+(o+i*z0)/\a+m*z0<=c.size)->PR e cy (((c.toList.drop p.base).drop (o+i*z0)).take (len*z0))->((c.toList.drop p.base).drop (o+i*z0)).length>=len*z0->
      ∃ys,PR e cy ys/\ys.length=len*z0/\(Builtin.lenOf (.slice (some ⟨p.n,a,none⟩) len cap')).run P w= .ok len w/\∀m,m<=len->(Builtin.firstCells z0 m (.slice (some ⟨p.n,a,none⟩) len cap')).run P w= .ok (ys.take (m*z0)).toArray w:=λhin hpc hge=>by
     refine ⟨_,hpc,by rw [aaU];omega,rfl,λm hm=>?_⟩
     by_cases h0:len=0
     ·subst h0
      obtain rfl:m=0:=by omega
      rw [iX];simp
     ·obtain ⟨h1,h2⟩:=hin m hm h0
      rw [eO hcell h2,h1,aa4,eP (aaD z0 hm)]
    have FF:∀m,m<=len->len≠0->a=p.base+(o+i*z0)/\a+m*z0<=c.size:=λm hm h0=>by
     have h1:=ha (by omega)
     have h2:=hfit (by omega)
     have h3:m*z0<=cap'*z0:=aaD z0 (by omega)
     omega
    have hdl:(c.toList.drop p.base).length=c.size-p.base:=by simp
    split at hc
    ·rename_i k nn xs rest hd
     obtain ⟨hd1,hd2⟩:=eF hd nt
     obtain ⟨zs,hzs,hcells⟩:=hd1
     have lF:((c.toList.drop p.base).take (av ps)).length=av ps:=by simp;omega
     have afi:av ps-o=nn+zs.length:=by
      have:=adX List.length hcells
      simp only [aaN,lF,aar,aF,aT] at this
      omega
     rw [lF] at hd2
     have Vd:∀a b:Nat,a+b<=nn->((c.toList.drop p.base).drop (o+a)).take b=((aU k (cG nn xs)).drop a).take b:=λa b hab=>by
      have h1:(((c.toList.drop p.base).take (av ps)).drop o).drop a=((c.toList.drop p.base).drop (o+a)).take (av ps-(o+a)):=by rw [aa4,adi]
      rw [hcells,abh (by rw [aF,aT];omega)] at h1
      have h2:=adX (List.take b) h1
      rw [eP (by omega),aaI (by rw [aaN,aF,aT];omega)] at h2
      exact h2.symm
     split at hc
     ·simp only [No,aae,aac,aab] at hc
      obtain ⟨rfl,gl,hle,rfl⟩:=hc
      refine fin FF ?_ (by simp;omega)
      have:=Vd 0 len (by omega)
      simp only [ad3,Nat.add_zero,adN] at this ⊢
      rw [this]
      exact ⟨[],rfl,by rw [aaz, <-cw,bN gl, <-lY hle,aao (by omega),bN gl]⟩
     ·simp only [No,aae,aac,aab] at hc
      obtain ⟨rfl,hle,gl⟩:=hc
      refine fin FF ?_ (by simp;omega)
      have:=Vd i len hle
      simp only [ad3] at this ⊢
      rw [this]
      refine ⟨[],rfl,?_⟩
      rw [aaz, <-dX, <-cw, <-sq, <-lY (by omega)]
    ·rename_i ps' hd JS
     obtain ⟨q,h1,h2⟩:=aag.1 hc
     simp only [aae,aeJ] at h2;subst h2
     obtain ⟨hd1,hd2⟩:=eF hd nt
     have lF:((c.toList.drop p.base).take (av ps)).length=av ps:=by simp;omega
     obtain ⟨h3,h4⟩:=nS h1 hd1
     rw [aaN,lF] at h4
     rw [lF] at hd2
     refine fin FF ?_ (by simp;omega)
     rw [aa4,adi,eP (by omega)] at h3
     exact h3
    ·cases hc
  ·cases hc
 ·-- structs that nobody writes
  rename_i f z0 n0 g
  simp only [No,aae,aeJ] at hc
  subst hc
  simp only [oK,No] at hn;subst hn
  have fR:z0=z:=aaA hrow
  subst fR
  rcases hy with ⟨h0,a,cap,hv,_⟩|⟨nb,o,cap,c,t,fr,rfl,hz,_,hq,hcap,hfit⟩
  ·refine oU h0 hv ⟨[],[],by simp [h0],λi hi=>by omega,rfl,rfl⟩
  ·have hb:=R.eU _ _ _ _ hz
   have hle:=aaD z0 hcap
   have hlt:∀m,m<=n0->m*z0<=n0*z0:=λm hm=>aaD z0 hm
   refine ⟨(c.toList.drop o).take (n0*z0),sS hq (by simp;omega),by rw [aaU,aaN,adR];omega,rfl,λm hm=>?_⟩
   have:=hlt m hm
   rw [eO hb (by omega),eP this]
 ·-- a slice of a tracked block of structs
  rename_i b z0 n0 fS ex0
  simp only [oK,No] at hn;subst hn
  have fR:z0=z:=aaA hrow
  subst fR
  split at hc
  ·rename_i z' nn g hb
   split at hc
   ·rename_i hz
    obtain rfl:=aaA hz
    simp only [No,aae,aab] at hc
    obtain ⟨rfl,uU⟩:=hc
    rcases hy with ⟨h0,_,a,hv⟩|⟨p,cap',a,hp,rfl,ha,_,_,hlen,hfit⟩
    ·refine oU h0 hv ⟨[],[],by simp [h0],λi hi=>by omega,rfl,rfl⟩
    ·obtain ⟨c,t,hcell,hsz,jN,us,zs,k1,k2,k3,k4⟩:=R.block hp hb
     rw [PR] at k3;subst k3
     rw [aaz] at k4
     have yq:av [SV.rows z' nn g]=nn*z':=by simp [av,gS]
     rw [yq] at k4 jN
     by_cases h0:n0=0
     ·subst h0
      refine ⟨[],⟨[],[],by simp,λi hi=>by omega,rfl,rfl⟩,by simp,rfl,λm hm=>?_⟩
      obtain rfl:m=0:=by omega
      rw [iX];simp
     ·have hc0:cap'≠0:=by omega
      have uJ:=ha hc0
      have hle:=aaD z' uU
      have hlt:∀m,m<=n0->m*z'<=n0*z':=λm hm=>aaD z' hm
      refine ⟨(c.toList.drop a).take (n0*z'),sS (λi hi=>?_) (by simp;omega),by rw [aaU,aaN,adR];omega,rfl,λm hm=>?_⟩
      ·have k:=k2 i (by omega)
       have hi2:i*z'+z'<=nn*z':=by
        have:=aaD z' (show i+1<=nn by omega)
        rw [Nat.succ_mul] at this;exact this
       rw [<-k4,adi,adD,aa4,ab6 (by omega), <-uJ] at k
       exact k
      ·have:=hlt m hm
       rw [eO hcell (by omega),eP this]
   ·cases hc
  ·cases hc
 ·cases hc
end
end Go.Sy
namespace Go.Sy
open Go
section
variable {P:Program} {e:Env} {B:cP} {h:List Blk} {w:World}
theorem PR.split:∀{a b:List SV} {ys:List Value},PR e (a++b) ys->∃y1 y2,ys=y1++y2/\PR e a y1/\PR e b y2
 | [],b,ys,h=>⟨[],ys,rfl,rfl,h⟩
 |x::a,b,ys,h=>by
  rw [List.cons_append] at h
  by_cases hx:bn x=true
  ·obtain ⟨y,zs,h1,h2,rfl⟩:=(PR.cons hx).1 h
   obtain ⟨y1,y2,rfl,h3,h4⟩:=PR.split h2
   exact ⟨y::y1,y2,rfl,(PR.cons hx).2 ⟨y,y1,h1,h3,rfl⟩,h4⟩
  ·cases x<;>simp [bn] at hx
   ·obtain ⟨zs,h2,rfl⟩:=h
    obtain ⟨y1,y2,rfl,h3,h4⟩:=PR.split h2
    exact ⟨_,y2,by rw [aaE],⟨y1,h3,rfl⟩,h4⟩
   ·obtain ⟨us,zs,h0,h1,h2,rfl⟩:=h
    obtain ⟨y1,y2,rfl,h3,h4⟩:=PR.split h2
    exact ⟨_,y2,by rw [aaE],⟨us,y1,h0,h1,h3,rfl⟩,h4⟩
theorem c8 (a b:List SV):av (a++b)=av a+av b:=by
 induction a with
 |nil=>simp [av]
 |cons x xs ih=>simp only [List.cons_append,av,ih];omega
theorem sU {f:SV->Option SV}:∀{ps ps':List SV} {o:Nat},Dd f ps o=some ps'->∃pre p p' post,ps=pre++p::post/\ps'=pre++p'::post/\av pre=o/\f p=some p'/\Z4 ps o=some p
 | [],ps',o,h=>by cases o<;>simp [Dd] at h
 |p::ps,ps',0,h=>by
  simp only [Dd] at h
  obtain ⟨p',h1,rfl⟩:=aag.1 h
  exact ⟨[],p,p',ps,rfl,rfl,rfl,h1,rfl⟩
 |p::ps,ps',o+1,h=>by
  simp only [Dd] at h
  split at h
  ·rename_i hb
   have hle:=aaP hb
   obtain ⟨qs,h1,rfl⟩:=aag.1 h
   obtain ⟨pre,x,x',post,rfl,rfl,h2,h3,h4⟩:=sU h1
   exact ⟨p::pre,x,x',post,rfl,rfl,by simp only [av];omega,h3,by simp only [Z4,hb];exact h4⟩
  ·cases h
theorem Aq {xs ys:List Int} {i n m:Nat} (h1:xs.length=m) (h2:i+n<=m) (h3:n<=ys.length):(De xs i ys n).length=m:=by simp [De];omega
theorem Rel.same (R:Rel B e h w) {b:Nat} {ps ps':List SV} (hb:h[b]? =some (.b ps)) (h1:∀ys,PR e ps ys->PR e ps' ys) (h2:av ps'=av ps):Rel B e (h.set b (.b ps')) w:=by
 have hlt:=(aal.1 hb).1
 exact {
  os:=R.os,tape:=R.tape,output:=R.output,size:=R.size,inj:=R.inj,dom:=λi p hi=>by simpa using R.dom i p hi,sep:=R.sep,eU:=R.eU,bp:=R.bp,dU:=R.dU,news:=R.news,bA:=R.bA,bM:=R.bM,n0:=R.n0,cI:=R.cI
  ew:=λi qs hi=>by
   by_cases jt:b=i
   ·subst jt
    rw [aay hlt] at hi;cases hi
    rcases R.ew b ps hb with ⟨g1,g2⟩|⟨p,o,g1,g2,c,t,rfl,g3,g4,g5⟩
    ·exact .inl ⟨by omega,g2⟩
    ·exact .inr ⟨p,_,g1,g2,c,t,rfl,g3,by omega,by rw [h2];exact h1 _ g5⟩
   ·rw [aau jt] at hi;exact R.ew i qs hi
  gap:=λi g hi=>by
   by_cases jt:b=i
   ·subst jt;rw [aay hlt] at hi;cases hi
   ·rw [aau jt] at hi;exact R.gap i g hi
  yi:=R.yi,yb:=R.yb,old:=R.old,win:=R.win,kr:=R.kr,fO:=by simpa using R.fO,fc:=R.fc,gJ:=R.gJ}
theorem Kj {x:SV} {m:Nat} {xs:List Int} (h:Pt x=some (m,xs)):∃k,x= .ints k m xs:=by
 unfold Pt at h
 split at h
 ·rename_i k m' xs';cases h;exact ⟨k,rfl⟩
 ·cases h
theorem iE {b o i n:Nat} {k:IntKind} {ys:List Int} {h':List Blk} (hw:qc h b o i k ys n=some (h',true)):∃ps pre post m xs,h[b]? =some (.b ps)/\ps=pre++ .ints k m xs::post/\av pre=o/\
  h'=h.set b (.b (pre++ .ints k m (De xs i ys n)::post))/\xs.length=m/\i+n<=m/\n<=ys.length:=by
 unfold qc at hw
 split at hw
 ·rename_i ps hb
  split at hw
  ·rename_i m xs ps' ha hu
   simp only [No,aae,aac,aab] at hw
   obtain ⟨rfl,⟨gl,hin⟩,kQ⟩:=hw
   obtain ⟨pre,x,x',post,rfl,rfl,h2,h3,h4⟩:=sU hu
   rw [h4] at ha
   obtain ⟨k',rfl⟩:=Kj ha
   simp only [U4] at h3
   split at h3
   ·rename_i hk
    subst hk
    cases h3
    exact ⟨_,pre,post,m,xs,hb,rfl,h2,rfl,gl,hin,kQ⟩
   ·cases h3
  ·cases hw
 ·cases hw
theorem FG (xs:List Int) (i:Nat) (ys:List Int):De xs i ys 0=xs:=by simp [De]
theorem jB (R:Rel B e h w) {b o i:Nat} {k:IntKind} {ys:List Int} {h':List Blk} (hw:qc h b o i k ys 0=some (h',true)):Rel B e h' w:=by
 obtain ⟨ps,pre,post,m,xs,hb,rfl,_,rfl,_⟩:=iE hw
 rw [FG]
 exact R.same hb (λ_ g=>g) rfl
theorem oV (R:Rel B e h w) {b o i n:Nat} {k:IntKind} {ys:List Int} {h':List Blk} {p:Pl} (hw:qc h b o i k ys n=some (h',true)) (hp:e.r b=some p):
  ∃w',(storeCells ⟨p.n,p.base+(o+i),none⟩ (aU k (ys.take n)) 0).run P w= .ok () w'/\Rel B e h' w':=by
 obtain ⟨ps,pre,post,m,xs,hb,rfl,ho,rfl,gl,hin,kQ⟩:=iE hw
 obtain ⟨c,t,hc,hsz,jN,nt⟩:=R.block hp hb
 have hl:(aU k (ys.take n)).length=n:=by simp [aF];omega
 have hsize:av (pre++ .ints k m xs::post)=o+(m+av post):=by rw [c8,ho];simp [av,gS]
 refine R.storeAt hp hc hsz jN (o+i) _ _ (by rw [hl,hsize];omega) (by rw [c8,c8];simp [av,gS]) (λv hv=>?_) ?_
 ·simp only [aU,List.map_take] at hv
  obtain ⟨x,_,rfl⟩:=List.mem_map.1 (List.mem_of_mem_take hv)
  rfl
 ·obtain ⟨y1,y2,hy,g1,g2⟩:=nt.split
  obtain ⟨zs,g3,rfl⟩:=g2
  rw [hy]
  have hy1:y1.length=o:=by rw [g1.length,ho]
  rw [bN gl,hl]
  have e1:(y1++(aU k xs++zs)).take (o+i)=y1++(aU k xs).take i:=by
   rw [List.take_append,aao (by omega),hy1,adP,aaI (by rw [aF];omega)]
  have e2:(y1++(aU k xs++zs)).drop (o+i+n)=(aU k xs).drop (i+n)++zs:=by
   rw [List.drop_append,adB (by omega),List.nil_append,hy1,show o+i+n-o=i+n by omega,abh (by rw [aF];omega)]
  rw [e1,e2]
  refine (g1.append (show PR e (.ints k m (De xs i ys n)::post) (aU k (De xs i ys n)++zs) from ⟨zs,g3,by rw [bN (Aq gl hin kQ)]⟩)) |> λg=>?_
  have e3:aU k (De xs i ys n)=(aU k xs).take i++aU k (ys.take n)++(aU k xs).drop (i+n):=by
   simp [De,fL,cw,dX]
  rw [e3] at g
  simpa [aaE] using g
structure Ar (P:Program) (w:World) (sT xT ty el:TypeId) (i:TypeInfo) (zv:Value) (y':Value) (ny:Nat) (C:List Value->Prop):Prop where
 fit:∃ys,C ys/\∀(base:Option Addr) (sLen sCap:Nat) (w':World),sLen+ny<=sCap->((base=none/\w'=w)\/∃a,base=some a/\(storeCells (a.add (sLen*i.size)) ys 0).run P w= .ok () w')->
  (Builtin.append_ #[sT,xT] ty #[.slice base sLen sCap,y']).run P w= .ok (.slice base (sLen+ny) sCap) w'
 grow:∃ys,C ys/\∀(base:Option Addr) (sLen sCap:Nat) (olds:List Value),(Builtin.firstCells i.size sLen (.slice base sLen sCap)).run P w.drew= .ok olds.toArray w.drew->sCap<sLen+ny->sLen+ny<=2^38->
  (Builtin.append_ #[sT,xT] ty #[.slice base sLen sCap,y']).run P w=
   .ok (.slice (some ⟨w.heap.size,0,none⟩) (sLen+ny) (grownCap w (sLen+ny) sCap el)) (w.drew.alloc (.cells (olds++ys++(Builtin.zeroCells zv.cells (grownCap w (sLen+ny) sCap el-(sLen+ny))).toList).toArray el))
theorem bJ {sT xT ty el:TypeId} {i:TypeInfo} {d:TypeDesc} {base:Option Addr} {sLen sCap n:Nat} {y':Value} {news:List Value} {w':World} (ht:P.underlying sT=some (.slice el)) (hu:P.underlying xT=some d) (hd:∀k,d≠.int k) (hi:P.info? el=some i)
  (hlen:(Builtin.lenOf y').run P w= .ok n w) (hf:(Builtin.firstCells i.size n y').run P w= .ok news.toArray w) (hfit:sLen+n<=sCap)
  (hst:(base=none/\w'=w)\/∃a,base=some a/\(storeCells (a.add (sLen*i.size)) news 0).run P w= .ok () w'):
  (Builtin.append_ #[sT,xT] ty #[.slice base sLen sCap,y']).run P w= .ok (.slice base (sLen+n) sCap) w':=by
 unfold Builtin.append_
 simp only [adv,aa2,acD,aaq,aas ht,aas hu,aak,sizeOf,typeInfo,run_program,hi,aax,adQ,if_false,hlen,aeF,if_true,aaM hfit,hf]
 rcases hst with ⟨rfl,rfl⟩|⟨a,rfl,hr⟩
 ·simp
 ·simp [hr]
theorem dj {sT xT ty el:TypeId} {i:TypeInfo} {d:TypeDesc} {zv:Value} {base:Option Addr} {sLen sCap n:Nat} {y':Value} {olds news:List Value} (ht:P.underlying sT=some (.slice el)) (hu:P.underlying xT=some d) (hd:∀k,d≠.int k) (hi:P.info? el=some i) (hz:i.zero=some zv)
  (hlen:(Builtin.lenOf y').run P w= .ok n w) (hold:(Builtin.firstCells i.size sLen (.slice base sLen sCap)).run P w.drew= .ok olds.toArray w.drew) (hf:(Builtin.firstCells i.size n y').run P w.drew= .ok news.toArray w.drew)
  (hg:sCap<sLen+n) (h63:((sLen+n:Nat):Int)<=9223372036854775807) (hb:(sLen+n)*i.bytes<=140737488355328):
  (Builtin.append_ #[sT,xT] ty #[.slice base sLen sCap,y']).run P w=
   .ok (.slice (some ⟨w.heap.size,0,none⟩) (sLen+n) (grownCap w (sLen+n) sCap el)) (w.drew.alloc (.cells (olds++news++(Builtin.zeroCells zv.cells (grownCap w (sLen+n) sCap el-(sLen+n))).toList).toArray el)):=by
 have hn:¬(sLen+n<=sCap):=by omega
 have h63':¬((sLen+n:Nat):Int)>IntKind.i64.max:=by show ¬((sLen+n:Nat):Int)>9223372036854775807;omega
 have h48:¬(Builtin.nextslicecap (sLen+n) sCap*i.bytes>2^48):=by have:=growslice_fits hg hb;omega
 have hroom:∀(m:Nat) (w:World),(askRoom m).run P w= .ok () w:=λm w=>by unfold askRoom;split<;>simp [mark,Sem.run]
 unfold Builtin.append_
 simp only [adv,aa2,acD,aaq,aas ht,aas hu,aak,sizeOf,typeInfo,run_program,hi,aax,adQ,if_false,hlen,aeF,if_true,aaC hn,h63',false_and,h48]
 have Oa:(choose (.appendCap (sLen+n) sCap el)).run P w= .ok (grownCap w (sLen+n) sCap el) w.drew:=by
  simp [Question.forced,grownCap]
 rw [Oa]
 simp only [aak,hroom,hold,hf,zeroValue,aaq,typeInfo,run_program,hi,hz,aax]
 simp [newRow,newObj,Sem.run,World.alloc]
 congr 2
 apply adV
 simp
theorem qj {sT xT ty el:TypeId} {i:TypeInfo} {kk:IntKind} {zv:Value} {n:Int} (ht:P.underlying sT=some (.slice el)) (hu:P.underlying xT=some (.int kk)) (hi:P.info? el=some i) (hz:i.zero=some zv) (h1:i.size=1) (hby:i.bytes<=256) (h0:0<n) (hn:n<=2^38):
  (Builtin.append_ #[sT,xT] ty #[.slice none 0 0,.int .i64 n]).run P w=
   .ok (.slice (some ⟨w.heap.size,0,none⟩) (0+n.toNat) (grownCap w (0+n.toNat) 0 el)) (w.drew.alloc (.cells ((Builtin.zeroCells zv.cells n.toNat).toList++(Builtin.zeroCells zv.cells (grownCap w (0+n.toNat) 0 el-(0+n.toNat))).toList).toArray el)):=by
 have hw:i64.wrap n=n:=IntWalk.i64_in n (by omega)
 have hneg:¬n<0:=by omega
 have gU:¬n*(i.bytes:Int)>2^48:=by
  have:n*(i.bytes:Int)<=2^38*256:=Int.mul_le_mul hn (by omega) (by omega) (by decide)
  omega
 have hfit:¬(0+n.toNat<=0):=by omega
 have h63':¬((0+n.toNat:Nat):Int)>IntKind.i64.max:=by show ¬((0+n.toNat:Nat):Int)>9223372036854775807;omega
 have h48:¬(Builtin.nextslicecap (0+n.toNat) 0*i.bytes>2^48):=by
  have hg:0<0+n.toNat:=by omega
  have hb:(0+n.toNat)*i.bytes<=140737488355328:=by
   have:(0+n.toNat)*i.bytes<=2^38*256:=Nat.mul_le_mul (by omega) hby
   omega
  have:=growslice_fits hg hb
  omega
 have hroom:∀(m:Nat) (w:World),(askRoom m).run P w= .ok () w:=λm w=>by unfold askRoom;split<;>simp [mark,Sem.run]
 have hne:¬n.toNat*i.size=0:=by rw [h1];omega
 unfold Builtin.append_
 have Oa:(choose (.appendCap (0+n.toNat) 0 el)).run P w= .ok (grownCap w (0+n.toNat) 0 el) w.drew:=by
  simp [Question.forced,grownCap]
 have hold:(Builtin.firstCells i.size 0 (.slice none 0 0)).run P w.drew= .ok ([]:List Value).toArray w.drew:=iX
 simp only [adv,aa2,acD,aaq,aas ht,aas hu,aak,sizeOf,typeInfo,run_program,hi,aax,if_true,asInt,asIntOf,hw,aaC hneg,aaC gU,aaC hfit,h63',false_and,if_false,h48,Oa,hroom,hold,Bool.not_true,adQ,aaC hne,zeroValue,hz]
 simp [newRow,newObj,Sem.run,World.alloc]
 congr 2
 apply adV
 simp
theorem oW {sT xT ty el:TypeId} {i:TypeInfo} {kk:IntKind} (ht:P.underlying sT=some (.slice el)) (hu:P.underlying xT=some (.int kk)) (hi:P.info? el=some i):
  (Builtin.append_ #[sT,xT] ty #[.slice none 0 0,.int .i64 0]).run P w= .ok (.slice none 0 0) w:=by
 have hw:i64.wrap 0=0:=by decide
 unfold Builtin.append_
 simp [aaq,aas ht,aas hu,sizeOf,typeInfo,hi,asInt,asIntOf,hw]
theorem mc {sT xT ty el:TypeId} {i:TypeInfo} {kk:IntKind} {zv:Value} {base:Option Addr} {sLen sCap:Nat} {n:Int} {w':World} (ht:P.underlying sT=some (.slice el)) (hu:P.underlying xT=some (.int kk)) (hi:P.info? el=some i) (hz:i.zero=some zv) (h1:i.size=zv.cells.size) (hby:i.bytes<=256) (h0:0<=n) (hn:n<=2^38) (hfit:sLen+n.toNat<=sCap)
  (hst:(base=none/\w'=w)\/∃a,base=some a/\(storeCells (a.add (sLen*i.size)) (Builtin.zeroCells zv.cells n.toNat).toList 0).run P w= .ok () w'):
  (Builtin.append_ #[sT,xT] ty #[.slice base sLen sCap,.int .i64 n]).run P w= .ok (.slice base (sLen+n.toNat) sCap) w':=by
 have hw:i64.wrap n=n:=IntWalk.i64_in n (by omega)
 have hneg:¬n<0:=by omega
 have gU:¬n*(i.bytes:Int)>2^48:=by
  have:n*(i.bytes:Int)<=2^38*256:=Int.mul_le_mul hn (by omega) (by omega) (by decide)
  omega
 have hlen:(Builtin.zeroCells zv.cells n.toNat).toList.length=n.toNat*i.size:=by simp [Builtin.zeroCells,h1]
 unfold Builtin.append_
 by_cases hne:n.toNat*i.size=0
 ·have uW:(Builtin.zeroCells zv.cells n.toNat).toList=[]:=aaw.1 (by rw [hlen];exact hne)
  rw [uW] at hst
  simp only [adv,aa2,acD,aaq,aas ht,aas hu,aak,sizeOf,typeInfo,run_program,hi,aax,if_true,asInt,asIntOf,hw,aaC hneg,aaC gU,aaM hfit,Bool.not_true,adQ,if_false,aaM hne]
  rcases hst with ⟨rfl,rfl⟩|⟨a,rfl,hr⟩
  ·simp
  ·simp [hr]
 ·simp only [adv,aa2,acD,aaq,aas ht,aas hu,aak,sizeOf,typeInfo,run_program,hi,aax,if_true,asInt,asIntOf,hw,aaC hneg,aaC gU,aaM hfit,Bool.not_true,adQ,if_false,aaC hne,zeroValue,hz]
  rcases hst with ⟨rfl,rfl⟩|⟨a,rfl,hr⟩
  ·simp
  ·simp [hr]
theorem lP {sT xT ty el:TypeId} {i:TypeInfo} {kk:IntKind} {zv:Value} {base:Option Addr} {sLen sCap:Nat} {olds:List Value} {n:Int} (ht:P.underlying sT=some (.slice el)) (hu:P.underlying xT=some (.int kk)) (hi:P.info? el=some i) (hz:i.zero=some zv) (h1:i.size=zv.cells.size) (hby:i.bytes<=256) (h0:0<=n) (hn:sLen+n.toNat<=2^38)
  (hold:(Builtin.firstCells i.size sLen (.slice base sLen sCap)).run P w.drew= .ok olds.toArray w.drew) (hg:sCap<sLen+n.toNat):
  (Builtin.append_ #[sT,xT] ty #[.slice base sLen sCap,.int .i64 n]).run P w=
   .ok (.slice (some ⟨w.heap.size,0,none⟩) (sLen+n.toNat) (grownCap w (sLen+n.toNat) sCap el)) (w.drew.alloc (.cells (olds++(Builtin.zeroCells zv.cells n.toNat).toList++(Builtin.zeroCells zv.cells (grownCap w (sLen+n.toNat) sCap el-(sLen+n.toNat))).toList).toArray el)):=by
 have hw:i64.wrap n=n:=IntWalk.i64_in n (by omega)
 have hneg:¬n<0:=by omega
 have gU:¬n*(i.bytes:Int)>2^48:=by
  have:n*(i.bytes:Int)<=2^38*256:=Int.mul_le_mul (by omega) (by omega) (by omega) (by decide)
  omega
 have hfit:¬(sLen+n.toNat<=sCap):=by omega
 have h63':¬((sLen+n.toNat:Nat):Int)>IntKind.i64.max:=by show ¬((sLen+n.toNat:Nat):Int)>9223372036854775807;omega
 have h48:¬(Builtin.nextslicecap (sLen+n.toNat) sCap*i.bytes>2^48):=by
  have hb:(sLen+n.toNat)*i.bytes<=140737488355328:=by
   have:(sLen+n.toNat)*i.bytes<=2^38*256:=Nat.mul_le_mul hn hby
   omega
  have:=growslice_fits hg hb
  omega
 have hroom:∀(m:Nat) (w:World),(askRoom m).run P w= .ok () w:=λm w=>by unfold askRoom;split<;>simp [mark,Sem.run]
 have hlen:(Builtin.zeroCells zv.cells n.toNat).toList.length=n.toNat*i.size:=by simp [Builtin.zeroCells,h1]
 have Oa:(choose (.appendCap (sLen+n.toNat) sCap el)).run P w= .ok (grownCap w (sLen+n.toNat) sCap el) w.drew:=by
  simp [Question.forced,grownCap]
 unfold Builtin.append_
 by_cases hne:n.toNat*i.size=0
 ·have uW:(Builtin.zeroCells zv.cells n.toNat).toList=[]:=aaw.1 (by rw [hlen];exact hne)
  rw [uW]
  simp only [adv,aa2,acD,aaq,aas ht,aas hu,aak,sizeOf,typeInfo,run_program,hi,aax,if_true,asInt,asIntOf,hw,aaC hneg,aaC gU,aaC hfit,h63',false_and,if_false,h48,Oa,hroom,hold,Bool.not_true,adQ,aaM hne,zeroValue,hz]
  simp [newRow,newObj,Sem.run,World.alloc]
  congr 2
  apply adV
  simp
 ·simp only [adv,aa2,acD,aaq,aas ht,aas hu,aak,sizeOf,typeInfo,run_program,hi,aax,if_true,asInt,asIntOf,hw,aaC hneg,aaC gU,aaC hfit,h63',false_and,if_false,h48,Oa,hroom,hold,Bool.not_true,adQ,aaC hne,zeroValue,hz]
  simp [newRow,newObj,Sem.run,World.alloc]
  congr 2
  apply adV
  simp
theorem me {cx cy:List SV} {xs ys:List Value} (hx:PR e cx xs) (hy:PR e cy ys) (hl:wv cx=true):PR e (lE cx cy) (xs++ys):=by
 unfold lE
 split
 ·rename_i k n as k' m bs
  obtain ⟨z1,g1,rfl⟩:=hx
  obtain ⟨z2,g2,rfl⟩:=hy
  rw [PR] at g1 g2;subst g1 g2
  simp only [wv,aab] at hl
  split
  ·rename_i hk
   subst hk
   refine ⟨[],rfl,?_⟩
   rw [aaz,aaz,aaz, <-fL]
   congr 1
   rw [bN hl]
   apply abf
   intro i
   by_cases h1:i<n+m
   ·rw [iC _ h1]
    by_cases h2:i<n
    ·rw [aaR (by omega),List.getD,aaR (by omega),aai (by omega)];rfl
    ·rw [aaV (by omega),hl,iC _ (by omega),List.getD,List.getD,aaV (by omega),hl]
   ·rw [aaJ (by simp [aT];omega),aaJ (by rw [aT];omega)]
  ·exact ⟨_,⟨[],rfl,rfl⟩,by simp⟩
 ·rw [PR] at hx;subst hx;exact hy
 ·rw [PR] at hy;subst hy;simpa using hx
 ·exact hx.append hy
theorem Rel.rebind (R:Rel B e h w) {b:Nat} {ps ps':List SV} {q:Pl} {w':World} {c:Array Value} {t:TypeId} (hB:B.e.r b=none) (hb:h[b]? =some (.b ps))
  (hno:dA b (h.set b (.b ps'))=true) (hos:w'.os=w.os) (FH:w'.tape=w.tape) (hout:w'.output=w.output) (hsize:w.heap.size<=w'.heap.size)
  (hsame:∀n,n<w.heap.size->(∀p,e.r b=some p->p.n≠n)->w'.heap[n]? =w.heap[n]?) (hq:w.heap.size<=q.n\/∃p,e.r b=some p/\p.n=q.n)
  (hcell:w'.heap[q.n]? =some (.cells c t (0,0))) (hfit:q.base+q.size<=c.size) (hps:av ps'<=q.size) (nt:PR e ps' ((c.toList.drop q.base).take (av ps'))):
  Rel B (kN e b q) (h.set b (.b ps')) w':=by
 have hlt:=(aal.1 hb).1
 have hnu:∀(i:Nat) (qs:List SV),(h.set b (.b ps'))[i]? =some (.b qs)->c6 b qs=false:=λi qs hi=>by
  have:=(aah.1 hno) (.b qs) (aaG hi)
  simpa using this
 have hnv:∀{i:Nat} (L:Lp),(h.set b (.b ps'))[i]? =some (.g (some L))->∀v,some v∈L.t->uses b v=false:=λ{i} L hi v hv=>by
  have:=(aah.1 hno) (.g (some L)) (aaG hi)
  have:=(aah.1 this) (some v) hv
  simpa [hJ] using this
 have up:∀(i:Nat) (qs:List SV) (ys:List Value),(h.set b (.b ps'))[i]? =some (.b qs)->PR e qs ys->PR (kN e b q) qs ys:=λi qs ys hi g=>
  PR.mono' (e:=e) (e':=kN e b q) (λ_ _ h=>h) (aaf _) qs ys (λj p hj hp=>by
   show (if j=b then some q else e.r j)=some p
   rw [aaC (λx=>by subst x;rw [hnu i qs hi] at hj;cases hj)];exact hp) g
 have JT:∀p,e.r b=some p->B.w.heap.size<=p.n:=λp hp=>by
  rcases R.news b p hp with g|g
  ·rw [hB] at g;cases g
  ·exact g
 have keep:∀(i:Nat) (p:Pl),i≠b->e.r i=some p->w'.heap[p.n]? =w.heap[p.n]? :=λi p hi hp=>hsame p.n (R.lt hp) λp' hp' x=>hi (R.inj i b p p' hp hp' x.symm)
 have Ve:∀(i:Nat) (p:Pl),i≠b->e.r i=some p->p.n≠q.n:=λi p hi hp x=>by
  rcases hq with g|⟨p',g1,g2⟩
  ·have:=R.lt hp;omega
  ·exact hi (R.inj i b p p' hp g1 (by omega))
 exact {
  os:=hos.trans R.os,tape:=FH.trans R.tape,output:=hout.trans R.output
  size:=abi R.size hsize
  inj:=λi i' p p' hi hi' g=>by
   rcases dK hi with ⟨g0,g1⟩|⟨g1,UG⟩<;>rcases dK hi' with ⟨g0',g2⟩|⟨g2,g2'⟩
   ·exact R.inj i i' p p' g1 g2 g
   ·subst g2';exact absurd g (Ve i p g0 g1)
   ·subst UG;exact absurd g.symm (Ve i' p' g0' g2)
   ·omega
  dom:=λi p hi=>by
   rcases dK hi with ⟨_,g⟩|⟨g,_⟩
   ·simpa using R.dom i p g
   ·subst g;simpa using hlt
  sep:=λi p hi=>by
   rcases dK hi with ⟨_,g⟩|⟨_,g⟩
   ·exact R.sep i p g
   ·subst g
    show e.z p.n=none
    rcases hq with g|⟨p',g1,g2⟩
    ·cases hz:e.z p.n with
     |none=>rfl
     |some x=>have:=R.JQ hz;omega
    ·rw [<-g2];exact R.sep b p' g1
  eU:=λn cc tt fr hz=>by
   have oQ:e.z n=some (cc,tt,fr):=hz
   rw [hsame n (R.JQ oQ) λp hp x=>by subst x;rw [R.sep b p hp] at oQ;cases oQ]
   exact R.eU n cc tt fr hz
  bp:=R.bp,dU:=R.dU
  news:=λi p hi=>by
   rcases dK hi with ⟨_,g⟩|⟨_,g⟩
   ·exact R.news i p g
   ·subst g
    rcases hq with g|⟨p',g1,g2⟩
    ·exact .inr (abi R.size g)
    ·exact .inr (by have:=JT p' g1;omega)
  bA:=λi p hi=>by
   show (if i=b then some q else e.r i)=some p
   rw [aaC (λx=>by subst x;rw [hB] at hi;cases hi)];exact R.bA i p hi
  bM:=R.bM,n0:=R.n0,cI:=R.cI
  ew:=λi qs hi=>by
   have rY:=hi
   by_cases jt:b=i
   ·subst jt
    rw [aay hlt] at hi;cases hi
    exact .inr ⟨q,_,di,hcell,c,t,rfl,hfit,hps,up b _ _ rY nt⟩
   ·rw [aau jt] at hi
    rcases R.ew i qs hi with ⟨g1,g2⟩|⟨p,o,g1,g2,c',t',rfl,g3,g4,g5⟩
    ·exact .inl ⟨g1,by show (if i=b then some q else e.r i)=none;rw [aaC (Ne.symm jt)];exact g2⟩
    ·exact .inr ⟨p,_,by show (if i=b then some q else e.r i)=some p;rw [aaC (Ne.symm jt)];exact g1,by rw [keep i p (Ne.symm jt) g1];exact g2,c',t',rfl,g3,g4,up i _ _ rY g5⟩
  gap:=λi g hi=>by
   by_cases jt:b=i
   ·subst jt;rw [aay hlt] at hi;cases hi
   ·rw [aau jt] at hi
    refine ⟨?_,(R.gap i g hi).2.keep (λn o hn=>?_) rfl λL hL v v' hm hv=>VR.mono' (e:=e) (e':=kN e b q) (λ_ _ h=>h) (aaf _) v v' (λj p hj hp=>by
     show (if j=b then some q else e.r j)=some p
     rw [aaC (λx=>by subst x;rw [hnv L (by rw [<-hL,aau jt];exact hi) v hm] at hj;cases hj)];exact hp) hv⟩
    ·show (if i=b then some q else e.r i)=none
     rw [aaC (Ne.symm jt)];exact (R.gap i g hi).1
    ·rw [hsame n (aav.1 hn).1 λp hp x=>by
      subst x
      obtain ⟨c',t',h1,_⟩:=R.eA hp
      rw [h1] at hn;cases hn]
     exact hn
  yi:=R.yi,yb:=R.yb
  old:=λn hn hno nI=>by
   rw [hsame n (by have:=R.size;omega) λp hp=>by have:=JT p hp;omega]
   exact R.old n hn hno nI
  win:=λi p hi=>by
   obtain ⟨o,o',ho,ho',JR⟩:=R.win i p hi
   exact ⟨o,o',ho,by rw [keep i p (λx=>by subst x;rw [hB] at hi;cases hi) (R.bA i p hi)];exact ho',JR⟩
  kr:=R.kr
  fO:=by simpa using R.fO
  fc:=λr hr=>by
   have:=R.fc r hr
   rw [hsame r (aav.1 this.1).1 λp hp x=>by
    subst x
    obtain ⟨c',t',h1,_⟩:=R.eA hp
    have h2:=this.1
    rw [h1] at h2;cases h2]
   exact this
  gJ:=R.gJ}
theorem Rel.zero (R:Rel B e h w) {b:Nat} {ps ps':List SV} (hb:h[b]? =some (.b ps)) (h1:PR e ps' []):Rel B e (h.set b (.b ps')) w:=by
 have hlt:=(aal.1 hb).1
 have h0:av ps'=0:=h1.length.symm
 exact {
  os:=R.os,tape:=R.tape,output:=R.output,size:=R.size,inj:=R.inj,dom:=λi p hi=>by simpa using R.dom i p hi,sep:=R.sep,eU:=R.eU,bp:=R.bp,dU:=R.dU,news:=R.news,bA:=R.bA,bM:=R.bM,n0:=R.n0,cI:=R.cI
  ew:=λi qs hi=>by
   by_cases jt:b=i
   ·subst jt
    rw [aay hlt] at hi;cases hi
    cases hr:e.r b with
    |none=>exact .inl ⟨h0,rfl⟩
    |some p=>
     obtain ⟨c,t,g1,g2,g3,g4⟩:=R.block hr hb
     exact .inr ⟨p,_,rfl,g1,c,t,rfl,g2,by omega,by rw [h0,List.take_zero];exact h1⟩
   ·rw [aau jt] at hi;exact R.ew i qs hi
  gap:=λi g hi=>by
   by_cases jt:b=i
   ·subst jt;rw [aay hlt] at hi;cases hi
   ·rw [aau jt] at hi;exact R.gap i g hi
  yi:=R.yi,yb:=R.yb,old:=R.old,win:=R.win,kr:=R.kr,fO:=by simpa using R.fO,fc:=R.fc,gJ:=R.gJ}
structure bW (e e':Env) (kill:Option Nat):Prop where
 r:∀(i:Nat) (p:Pl),kill≠some i->e.r i=some p->e'.r i=some p
 z:∀n o,e.z n=some o->e'.z n=some o
 n0:e'.n0<=e.n0
 m:e'.m=e.m
theorem bW.refl (e:Env) (k:Option Nat):bW e e k:=⟨λ_ _ _ h=>h,λ_ _ h=>h,aaf _,rfl⟩
theorem bW.of_le {e e':Env} (h:Env.Le e e') (hm:e'.m=e.m) (k:Option Nat):bW e e' k:=⟨λi p _=>h.r i p,h.z,h.n0,hm⟩
theorem bW.le {e e':Env} (h:bW e e' none):Env.Le e e':=⟨λi p=>h.r i p (by simp),h.z,h.n0⟩
theorem bW.slots {e':Env} {k:Option Nat} (hs:bW e e' k) {t:List (Option SV)} {t':List Value} (g:TR e t t'):TR e' (ez k t) t':=by
 cases k with
 |none=>exact g.mono hs.le
 |some b=>exact g.kill hs.z hs.n0 λj p hj=>hs.r j p (by simp;exact λx=>hj x.symm)
def cz (B:cP) (e:Env) (j:Nat) (r:jr) (res:Result Next):Prop:=
 ∃nx w' e' v',res= .ok nx w'/\(nx= .value v'\/(nx= .skip/\v'=undef))/\VR e' r.v v'/\Rel B e' (bI r.h j r.new) w'/\bW e e' r.kill
theorem mg {el:TypeId} {z:Nat} (hk:sI P el=some z):∃i zv,P.info? el=some i/\i.size=z+1/\i.zero=some zv/\zv.cells.size=z+1/\i.bytes<=256:=by
 unfold sI at hk
 split at hk
 ·rename_i Df z' zs hb hs hz
  split at hk
  ·rename_i hc
   simp only [aac,aab] at hc
   cases hk
   obtain ⟨i,hi,hsz⟩:=vu hs
   obtain ⟨zv,h1,h2⟩:=qh hz
   refine ⟨i,zv,hi,hsz,?_,by omega,?_⟩
   ·simpa [zeroOf,hi] using h1
   ·simp [hi] at hb;omega
  ·cases hk
 ·cases hk
theorem bz (h:List Blk) (j:Nat):bI h j []=h:=by unfold bI;split<;>simp [bV]
theorem cm (c:Array Value) (n:Nat):(Builtin.zeroCells c n).toList.length=n*c.size:=by simp [Builtin.zeroCells]
theorem jY {ps:List SV} {ys:List Value} (h:PR e ps ys) (hk:kI ps=true):∀v∈ys,v.oneCell'=true:=gL h hk
theorem FI {z n:Nat} {g:Nat->List SV} {ys:List Value} (h:PR e [.rows z n g] ys) (hk:((List.range n).all λi=>kI (g i))=true):∀v∈ys,v.oneCell'=true:=λv hv=>by
 obtain ⟨us,zs,k1,k2,k3,k4⟩:=h
 rw [PR] at k3;subst k3
 rw [aaz] at k4;subst k4
 obtain ⟨j,hj,rfl⟩:=List.getElem_of_mem hv
 have hz:0<z:=by
  rcases Nat.eq_zero_or_pos z with q|q
  ·subst q;rw [Nat.mul_zero] at k1;omega
  ·exact q
 have hi:j/z<n:=Nat.div_lt_of_lt_mul (by rw [Nat.mul_comm, <-k1];exact hj)
 refine jY (k2 (j/z) hi) (aah.1 hk _ (aan.2 hi)) _ ?_
 have e1:j=j/z*z+j%z:=by have:=Nat.div_add_mod j z;rw [Nat.mul_comm] at this;exact this.symm
 have hm:=Nat.mod_lt j hz
 have:(((ys.drop (j/z*z)).take z)[j%z]?)=some ys[j]:=by
  rw [aa8,aaM hm,aaQ, <-e1,aai hj]
 exact aaG this
theorem n3 (R:Rel B e h w) {k j b z len cap ny n:Nat} {ex pp:Bool} {g g':Nat->List SV} {sT xT ty el:TypeId} {i:TypeInfo} {zv x' y':Value} (hk:∀i p,B.e.r i=some p->i<k) (BP:k<=b) (hsz:i.size=z+1) (hzs:zv.cells.size=z+1)
  (hx:VR e (.bK b (z+1) len cap ex) x') (hb:h[b]? =some (.b [.rows (z+1) n g])) (uU:len<=n) {C:List Value->Prop} (Y:Ar P w sT xT ty el i zv y' ny C) (hC:∀ys,C ys->ys.length=ny*(z+1)/\∀v∈ys,v.oneCell'=true) (gU:len+ny<=2^38)
  (hno:dA b (h.set b (.b [.rows (z+1) (len+ny) g']))=true) (hg':∀xs ys,C ys->PR e [.rows (z+1) len g] xs->xs.length=len*(z+1)->PR e [.rows (z+1) (len+ny) g'] (xs++ys)):
  cz B e j ⟨.bK b (z+1) (len+ny) (len+ny) false,h.set b (.b [.rows (z+1) (len+ny) g']),[],some b,pp⟩ ((do pure (.value (<-Builtin.append_ #[sT,xT] ty #[x',y'])):Sem Next).run P w):=by
 have hB:B.e.r b=none:=by
  cases hq:B.e.r b with
  |none=>rfl
  |some p=>have:=hk b p hq;omega
 have rH:cu h (.bK b (z+1) len cap ex)=some ([.rows (z+1) len g],true):=by
  simp only [cu,hb,show Nat.beq (z+1) (z+1)=true from Nat.beq_refl _,Me uU]
 have hrow:cj (z+1) (.bK b (z+1) len cap ex)=true:=Nat.beq_refl _
 obtain ⟨xs,hxs,gl,_,Vf⟩:=aY (P:=P) (z:=z+1) R rH (n:=len) rfl hx hrow
 have uX:av [SV.rows (z+1) (len+ny) g']=(len+ny)*(z+1):=by simp [av,gS]
 have grow:∀(base:Option Addr) (sCap:Nat),x'= .slice base len sCap->sCap<len+ny->cz B e j ⟨.bK b (z+1) (len+ny) (len+ny) false,h.set b (.b [.rows (z+1) (len+ny) g']),[],some b,pp⟩ ((do pure (.value (<-Builtin.append_ #[sT,xT] ty #[x',y'])):Sem Next).run P w):=λbase sCap hx' hlt=>by
  subst hx'
  obtain ⟨xV,As,nu,_,At⟩:=aY (P:=P) (z:=z+1) (R.drawn (w.drawn+1)) rH (n:=len) rfl hx hrow
  have hold:(Builtin.firstCells i.size len (.slice base len sCap)).run P w.drew= .ok xV.toArray w.drew:=by
   have:=At len (aaf _)
   rw [aao (by omega), <-hsz] at this
   exact this
  obtain ⟨ys,Au,hgr⟩:=Y.grow
  have gk:=(hC ys Au).1
  have hrun:=hgr base len sCap xV hold hlt gU
  have hge:len+ny<=grownCap w (len+ny) sCap el:=by unfold grownCap;simp [Question.cut]
  have hcells:(xV++ys++(Builtin.zeroCells zv.cells (grownCap w (len+ny) sCap el-(len+ny))).toList).length=grownCap w (len+ny) sCap el*(z+1):=by
   simp only [aar,cm,hzs,gk,nu, <-abJ];congr 1;omega
  refine ⟨_,_,kN e b ⟨w.heap.size,0,grownCap w (len+ny) sCap el*(z+1)⟩,_,(by simp only [aaq,hrun,aak,aax];try rfl),.inl rfl,.inr ⟨_,grownCap w (len+ny) sCap el,0,di,rfl,λ_=>by simp,hge,(λq=>by cases q),hge,λ_=>by simp⟩,?_,⟨λi p hi Kk=>?_,λ_ _ h=>h,aaf _,rfl⟩⟩
  ·rw [bz]
   refine R.rebind hB hb hno rfl rfl rfl (by rw [World.size_alloc];exact Nat.le_succ _) (λn hn _=>?_) (.inl (aaf _)) (heap_alloc_new _ _) (by rw [abC, <-hcells];exact aaf _) (by rw [uX];exact aaD _ hge) ?_
   ·exact heap_alloc_old w.drew _ n hn
   ·simp only [adN]
    rw [aaI (by rw [uX,aar,nu,gk, <-abJ];exact aaf _),aao (by rw [uX,aar,nu,gk, <-abJ];exact aaf _)]
    exact hg' xV ys Au As nu
  ·show (if i=b then _ else e.r i)=some p
   rw [aaC (λq=>hi (by rw [q]))];exact Kk
 obtain ⟨ys,Au,PC⟩:=Y.fit
 obtain ⟨gk,hone⟩:=hC ys Au
 rcases hx with ⟨rfl,rfl,a,rfl⟩|⟨p,cap',a,qg,rfl,yw,hcap,hex,hlc,hft⟩
 ·by_cases h0:ny=0
  ·subst h0
   have xW:ys=[]:=aaw.1 (by rw [gk];simp)
   subst xW
   have hrun:=PC a 0 0 w (aaf _) (by cases a with|none=>exact .inl ⟨rfl,rfl⟩|some a=>exact .inr ⟨a,rfl,rfl⟩)
   refine ⟨_,w,e,_,(by simp only [aaq,hrun,aak,aax];try rfl),.inl rfl,.inl ⟨rfl,rfl,a,rfl⟩,?_,bW.refl _ _⟩
   rw [bz]
   have uY:xs=[]:=aaw.1 (by rw [gl];simp)
   subst uY
   exact R.zero hb (hg' [] [] Au hxs (by simp))
  ·exact grow a 0 rfl (by omega)
 ·by_cases hroom:len+ny<=cap'
  ·obtain ⟨c,t,hcell,FJ,jN,nt⟩:=R.block qg hb
   by_cases hc0:cap'=0
   ·have An:len=0:=by omega
    have hn0:ny=0:=by omega
    subst hc0 An hn0
    have xW:ys=[]:=aaw.1 (by rw [gk];simp)
    subst xW
    have hrun:=PC (some ⟨p.n,a,none⟩) 0 0 w (aaf _) (.inr ⟨_,rfl,rfl⟩)
    refine ⟨_,w,e,_,(by simp only [aaq,hrun,aak,aax];try rfl),.inl rfl,.inl ⟨rfl,rfl,_,rfl⟩,?_,bW.refl _ _⟩
    rw [bz]
    have uY:xs=[]:=aaw.1 (by rw [gl];simp)
    subst uY
    exact R.zero hb (hg' [] [] Au hxs (by simp))
   ·have uJ:=yw hc0
    have Ds:=hft hc0
    have hmul:(len+ny)*(z+1)<=cap'*(z+1):=aaD _ hroom
    have hsplit:(len+ny)*(z+1)=len*(z+1)+ny*(z+1):=abJ _ _ _
    have hst:=run_storeCells_at P p.n (a+len*(z+1)) t ys 0 c w hcell (by omega) hone
    simp only [Nat.add_zero] at hst
    have hrun:=PC (some ⟨p.n,a,none⟩) len cap' _ hroom (.inr ⟨_,rfl,by rw [dP,hsz];exact hst⟩)
    have oX:xs=(c.toList.drop a).take (len*(z+1)):=by
     have h1:=Vf len (aaf _)
     rw [eO hcell (by omega),aao (l:=xs) (by omega)] at h1
     have h2:((c.toList.drop a).take (len*(z+1))).toArray=xs.toArray:=(Result.ok.inj h1).1
     exact (adX Array.toList h2).symm
    refine ⟨_,_,kN e b ⟨p.n,a,cap'*(z+1)⟩,_,(by simp only [aaq,hrun,aak,aax];try rfl),.inl rfl,.inr ⟨_,cap',a,di,rfl,λ_=>by simp,hroom,(λq=>by cases q),hroom,λ_=>by simp⟩,?_,⟨λi p hi Kk=>?_,λ_ _ h=>h,aaf _,rfl⟩⟩
    ·rw [bz]
     refine R.rebind hB hb hno rfl rfl rfl (by simp [World.setRow]) (λn hn hne=>setRow_other w p.n n _ (λq=>hne p qg q.symm)) (.inr ⟨p,qg,rfl⟩) (setRow_heap w p.n c _ t (0,0) hcell) (by simp;omega) (by rw [uX];exact hmul) ?_
     rw [uX]
     have hgoal:((c.toList.take (a+len*(z+1))++ys++c.toList.drop (a+len*(z+1)+ys.length)).drop a).take ((len+ny)*(z+1))=xs++ys:=by
      rw [aaE,abh (by simp;omega),adi,adP, <-oX, <-aaE,
       aaI (by rw [aar];omega),aao (by rw [aar];omega)]
     simp only []
     rw [hgoal]
     exact hg' xs ys Au hxs gl
    ·show (if i=b then _ else e.r i)=some _
     rw [aaC (λq=>hi (by rw [q]))];exact Kk
  ·exact grow _ cap' rfl (by omega)
theorem sV (R:Rel B e h w) {j b z len cap ny n:Nat} {pp:Bool} {g g':Nat->List SV} {sT xT ty el:TypeId} {i:TypeInfo} {zv x' y':Value} (hsz:i.size=z+1)
  (hx:VR e (.bK b (z+1) len cap true) x') (hb:h[b]? =some (.b [.rows (z+1) n g])) (uU:len<=n) {C:List Value->Prop} (Y:Ar P w sT xT ty el i zv y' ny C) (hC:∀ys,C ys->ys.length=ny*(z+1)/\∀v∈ys,v.oneCell'=true) (hfit:len+ny<=cap)
  (hg':∀xs ys,C ys->PR e [.rows (z+1) len g] xs->xs.length=len*(z+1)->PR e [.rows (z+1) (len+ny) g'] (xs++ys)):
  cz B e j ⟨.bK b (z+1) (len+ny) cap true,h.set b (.b [.rows (z+1) (len+ny) g']),[],none,pp⟩ ((do pure (.value (<-Builtin.append_ #[sT,xT] ty #[x',y'])):Sem Next).run P w):=by
 have rH:cu h (.bK b (z+1) len cap true)=some ([.rows (z+1) len g],true):=by
  simp only [cu,hb,show Nat.beq (z+1) (z+1)=true from Nat.beq_refl _,Me uU]
 have hrow:cj (z+1) (.bK b (z+1) len cap true)=true:=Nat.beq_refl _
 obtain ⟨xs,hxs,gl,_,Vf⟩:=aY (P:=P) (z:=z+1) R rH (n:=len) rfl hx hrow
 obtain ⟨ys,Au,PC⟩:=Y.fit
 obtain ⟨gk,hone⟩:=hC ys Au
 rcases hx with ⟨rfl,rfl,a,rfl⟩|⟨p,cap',a,qg,rfl,yw,hcap,hex,hlc,hft⟩
 ·have h0:ny=0:=by omega
  subst h0
  have xW:ys=[]:=aaw.1 (by rw [gk];simp)
  subst xW
  have hrun:=PC a 0 0 w (aaf _) (by cases a with|none=>exact .inl ⟨rfl,rfl⟩|some a=>exact .inr ⟨a,rfl,rfl⟩)
  refine ⟨_,w,e,_,(by simp only [aaq,hrun,aak,aax];try rfl),.inl rfl,.inl ⟨rfl,rfl,a,rfl⟩,?_,bW.refl _ _⟩
  rw [bz]
  have uY:xs=[]:=aaw.1 (by rw [gl];simp)
  subst uY
  exact R.zero hb (hg' [] [] Au hxs (by simp))
 ·have rX:=hex rfl
  subst rX
  obtain ⟨c,t,hcell,FJ,jN,nt⟩:=R.block qg hb
  by_cases hc0:cap'=0
  ·have An:len=0:=by omega
   have hn0:ny=0:=by omega
   subst hc0 An hn0
   have xW:ys=[]:=aaw.1 (by rw [gk];simp)
   subst xW
   have hrun:=PC (some ⟨p.n,a,none⟩) 0 0 w (aaf _) (.inr ⟨_,rfl,rfl⟩)
   refine ⟨_,w,e,_,(by simp only [aaq,hrun,aak,aax];try rfl),.inl rfl,.inl ⟨rfl,rfl,_,rfl⟩,?_,bW.refl _ _⟩
   rw [bz]
   have uY:xs=[]:=aaw.1 (by rw [gl];simp)
   subst uY
   exact R.zero hb (hg' [] [] Au hxs (by simp))
  ·have uJ:=yw hc0
   have Ds:=hft hc0
   have hmul:(len+ny)*(z+1)<=cap'*(z+1):=aaD _ hfit
   have hsplit:(len+ny)*(z+1)=len*(z+1)+ny*(z+1):=abJ _ _ _
   have oX:xs=(c.toList.drop a).take (len*(z+1)):=by
    have h1:=Vf len (aaf _)
    rw [eO hcell (by omega),aao (l:=xs) (by omega)] at h1
    have h2:((c.toList.drop a).take (len*(z+1))).toArray=xs.toArray:=(Result.ok.inj h1).1
    exact (adX Array.toList h2).symm
   have q1:av [SV.rows (z+1) len g]=len*(z+1):=by simp [av,gS]
   have q2:av [SV.rows (z+1) (len+ny) g']=(len+ny)*(z+1):=by simp [av,gS]
   obtain ⟨w',hst,R'⟩:=R.yt (P:=P) (ps:=[SV.rows (z+1) len g]) qg hcell FJ ys [SV.rows (z+1) (len+ny) g'] (by rw [q1,gk];omega) (by rw [q1,q2,gk];exact hsplit) hone (by
    rw [q1, <-uJ, <-oX]
    exact hg' xs ys Au hxs gl)
   rw [q1, <-uJ] at hst
   have hrun:=PC (some ⟨p.n,a,none⟩) len cap' _ hfit (.inr ⟨_,rfl,by rw [dP,hsz];exact hst⟩)
   refine ⟨_,w',e,_,(by simp only [aaq,hrun,aak,aax];try rfl),.inl rfl,.inr ⟨p,cap',a,qg,rfl,yw,aaf _,λ_=>rfl,hfit,hft⟩,?_,bW.refl _ _⟩
   rw [bz]
   exact R'
theorem rI (R:Rel B e h w) {j b z len cap ny n:Nat} {pp:Bool} {g g':Nat->List SV} {sT xT ty el:TypeId} {i:TypeInfo} {zv x' y':Value} (hsz:i.size=z+1) (hzs:zv.cells.size=z+1) (hj:jO h j 1)
  (hx:VR e (.bK b (z+1) len cap true) x') (hb:h[b]? =some (.b [.rows (z+1) n g])) (uU:len<=n) {C:List Value->Prop} (Y:Ar P w sT xT ty el i zv y' ny C) (hC:∀ys,C ys->ys.length=ny*(z+1)/\∀v∈ys,v.oneCell'=true) (hlt:cap<len+ny) (gU:len+ny<=2^38)
  (hg':∀xs ys,C ys->PR e [.rows (z+1) len g] xs->xs.length=len*(z+1)->PR e [.rows (z+1) (len+ny) g'] (xs++ys)):
  cz B e j ⟨.bK j (z+1) (len+ny) (len+ny) false,h,[.b [.rows (z+1) (len+ny) g']],none,pp⟩ ((do pure (.value (<-Builtin.append_ #[sT,xT] ty #[x',y'])):Sem Next).run P w):=by
 have rH:cu h (.bK b (z+1) len cap true)=some ([.rows (z+1) len g],true):=by
  simp only [cu,hb,show Nat.beq (z+1) (z+1)=true from Nat.beq_refl _,Me uU]
 have hrow:cj (z+1) (.bK b (z+1) len cap true)=true:=Nat.beq_refl _
 have uX:av [SV.rows (z+1) (len+ny) g']=(len+ny)*(z+1):=by simp [av,gS]
 have grow:∀(base:Option Addr) (sCap:Nat),x'= .slice base len sCap->sCap<len+ny->cz B e j ⟨.bK j (z+1) (len+ny) (len+ny) false,h,[.b [.rows (z+1) (len+ny) g']],none,pp⟩ ((do pure (.value (<-Builtin.append_ #[sT,xT] ty #[x',y'])):Sem Next).run P w):=λbase sCap hx' hlt=>by
  subst hx'
  obtain ⟨xV,As,nu,_,At⟩:=aY (P:=P) (z:=z+1) (R.drawn (w.drawn+1)) rH (n:=len) rfl hx hrow
  have hold:(Builtin.firstCells i.size len (.slice base len sCap)).run P w.drew= .ok xV.toArray w.drew:=by
   have:=At len (aaf _)
   rw [aao (by omega), <-hsz] at this
   exact this
  obtain ⟨ys,Au,hgr⟩:=Y.grow
  have gk:=(hC ys Au).1
  have hrun:=hgr base len sCap xV hold hlt gU
  have hge:len+ny<=grownCap w (len+ny) sCap el:=by unfold grownCap;simp [Question.cut]
  have hcells:(xV++ys++(Builtin.zeroCells zv.cells (grownCap w (len+ny) sCap el-(len+ny))).toList).length=grownCap w (len+ny) sCap el*(z+1):=by
   simp only [aar,cm,hzs,gk,nu, <-abJ];congr 1;omega
  have R2:=(R.drawn (w.drawn+1)).make (j:=j) (t:=el) (ps:=[.rows (z+1) (len+ny) g']) (ys:=xV++ys++(Builtin.zeroCells zv.cells (grownCap w (len+ny) sCap el-(len+ny))).toList) hj
   (by
    rw [aaI (by rw [uX,aar,nu,gk, <-abJ];exact aaf _),aao (by rw [uX,aar,nu,gk, <-abJ];exact aaf _)]
    exact hg' xV ys Au As nu)
   (by rw [hcells,uX];exact aaD _ hge)
  have hfree:=R.free (j:=j) (by rcases hj with g|g;exact .inl g;exact .inr (by simpa using g 0 (by simp)))
  refine ⟨_,_,_,_,(by simp only [aaq,hrun,aak,aax];try rfl),.inl rfl,.inr ⟨_,grownCap w (len+ny) sCap el,0,di,rfl,λ_=>by simp,hge,(λq=>by cases q),hge,λ_=>?_⟩,R2,bW.of_le (gM hfree) rfl _⟩
  rw [hcells]
  exact aaf _
 rcases hx with ⟨rfl,rfl,a,rfl⟩|⟨p,cap',a,qg,rfl,yw,hcap,hex,hlc,hft⟩
 ·exact grow a 0 rfl (by omega)
 ·have rX:=hex rfl
  subst rX
  exact grow _ cap' rfl hlt
theorem mU {z n m:Nat} {g g':Nat->List SV} {xs ys:List Value} (hx:PR e [.rows z n g] xs) (gl:xs.length=n*z) (gk:ys.length=m*z) (h1:∀i,i<n->PR ⟨λ_=>none,e.z,e.n0,[],λ_=>none⟩ (g i) ((xs.drop (i*z)).take z)->PR ⟨λ_=>none,e.z,e.n0,[],λ_=>none⟩ (g' i) ((xs.drop (i*z)).take z))
  (h2:∀i,i<m->PR ⟨λ_=>none,e.z,e.n0,[],λ_=>none⟩ (g' (n+i)) ((ys.drop (i*z)).take z)):PR e [.rows z (n+m) g'] (xs++ys):=by
 obtain ⟨us,zs,k1,k2,k3,k4⟩:=hx
 rw [PR] at k3;subst k3
 rw [aaz] at k4;subst k4
 refine ⟨xs++ys,[],by rw [aar,abJ];omega,λi hi=>?_,rfl,(aaz _).symm⟩
 by_cases hn:i<n
 ·have hi2:i*z+z<=n*z:=by
   have:=aaD z (Nat.succ_le_of_lt hn)
   rw [Nat.succ_mul] at this;exact this
  rw [abh (by omega),aaI (by rw [aaN];omega)]
  exact h1 i hn (k2 i hn)
 ·obtain ⟨j,rfl⟩:∃j,i=n+j:=⟨i-n,by omega⟩
  have:(n+j)*z=xs.length+j*z:=by rw [abJ];omega
  rw [this,List.drop_append,adB (by omega),List.nil_append,adP]
  exact h2 j (by omega)
theorem cz.val {j:Nat} {r:jr} {u:SV} {res:Result Next} (g:cz B e j r res) (hv:∀e v,VR e r.v v->VR e u v):cz B e j {r with v:=u} res:=by
 obtain ⟨nx,w',e',v',h1,h2,h3,h4,h5⟩:=g
 exact ⟨nx,w',e',v',h1,h2,hv _ _ h3,h4,h5⟩
theorem wP {cy:List SV} {j z ny:Nat} {e:Env} {v:Value} (h:VR e (.sl j 0 0 z ny ny false true) v):VR e (J9 cy j z ny) v:=by
 unfold J9
 split
 ·exact VR.mb h
 ·exact h
theorem BQ {α:Type} (l:List α):∀(m i:Nat),i<m->(((List.replicate m l).flatten).drop (i*l.length)).take l.length=l
 |0,i,h=>by omega
 |m+1,0,_=>by simp [List.replicate_succ]
 |m+1,i+1,h=>by
  rw [List.replicate_succ,List.flatten_cons,Nat.succ_mul,Nat.add_comm,List.drop_append,adB (by omega),List.nil_append,adP]
  exact BQ l m i (by omega)
theorem uZ (R:Rel B e h w) {k j:Nat} {ey:Bool} {sT xT ty:TypeId} {x y:SV} {x' y':Value} {r:jr} (ha:rW P k h j ey sT xT x y=some r) (hp:r.p=true) (hj:jO h j r.new.length)
  (hk:∀i p,B.e.r i=some p->i<k) (hx:VR e x x') (hy:VR e y y'):cz B e j r ((do pure (.value (<-Builtin.append_ #[sT,xT] ty #[x',y'])):Sem Next).run P w):=by
 unfold rW at ha
 split at ha
 ·-- so many afj
  rename_i el kk ht hu
  unfold wz at ha
  split at ha
  rotate_left
  ·rename_i b z' len cap ex m z hki hok
   obtain ⟨i,zv,hi,hsz,hz,hzs,hby⟩:=mg hok
   split at ha
   ·rename_i zz n g zs hb Vg
    split at ha
    ·rename_i hc
     simp only [aac,aab] at hc
     obtain ⟨⟨⟨⟨⟨BP,rfl⟩,rfl⟩,Dt⟩,lF⟩,hno⟩:=hc
     cases ha
     simp only [aac,aab] at hp
     obtain ⟨⟨uU,hm0⟩,gU⟩:=hp
     obtain rfl:y'= .int .i64 m:=hy
     obtain ⟨zv',N7,hzp⟩:=fD (P:=P) (e:=e) Vg
     obtain rfl:zv=zv':=by simp [zeroOf,hi,hz] at N7;exact N7
     have hlz:zv.cells.toList.length=z+1:=by simpa using hzs
     have Z6:(Builtin.zeroCells zv.cells m.toNat).toList=(List.replicate m.toNat zv.cells.toList).flatten:=Am zv.cells (by omega) m.toNat
     have hone:∀v∈(Builtin.zeroCells zv.cells m.toNat).toList,v.oneCell'=true:=λv hv=>by
      rw [Z6] at hv
      obtain ⟨l,hl,hvl⟩:=List.mem_flatten.1 hv
      rw [List.eq_of_mem_replicate hl] at hvl
      exact jY hzp Dt v hvl
     have Y:Ar P w sT xT ty el i zv (.int .i64 m) m.toNat (· =(Builtin.zeroCells zv.cells m.toNat).toList):={
      fit:=⟨_,rfl,λbase sLen sCap w' h1 h2=>mc ht hu hi hz (by omega) hby hm0 (by omega) h1 h2⟩
      grow:=⟨_,rfl,λbase sLen sCap olds h1 h2 h3=>lP ht hu hi hz (by omega) hby hm0 h3 h1 h2⟩}
     have hzl:(Builtin.zeroCells zv.cells m.toNat).toList.length=m.toNat*(z+1):=by rw [cm,hzs]
     refine n3 (P:=P) R hk (aaP BP) hsz hzs hx hb uU Y (λys hys=>by subst hys;exact ⟨hzl,hone⟩) gU hno λxs ys hys hxs gl=>?_
     subst hys
     refine mU hxs gl hzl (λi hi g1=>?_) λi hi=>?_
     ·rw [adO (show i+1<=len by omega)]
      exact jW g1
     ·rw [show Nat.ble (len+i+1) len=false from by
       cases hb:Nat.ble (len+i+1) len with
       |false=>rfl
       |true=>have:=aaP hb;omega]
      refine jX ?_
      rw [Z6, <-hlz,BQ _ _ _ hi]
      exact hzp.closed lF
    ·cases ha
   ·cases ha
  ·cases ha
  ·rename_i n ki hki hok
   obtain ⟨i,zv,hi,hsz,hz,hzs,hby⟩:=mg hok
   simp only [No] at ha
   subst ha
   simp only [aac,aab] at hp
   obtain rfl:x'= .slice none 0 0:=hx
   obtain rfl:y'= .int .i64 n:=hy
   by_cases h0:n=0
   ·subst h0
    exact ⟨_,w,e,_,(by simp only [aaq,oW ht hu hi,aak,aax];try rfl),.inl rfl,.inl ⟨rfl,rfl,none,rfl⟩,R.nothing (by simpa using hj) rfl,bW.refl _ _⟩
   ·have hrun:=qj (w:=w) (ty:=ty) ht hu hi hz (by omega) hby (by omega) hp.2
    have hfree:=R.free (j:=j) (by rcases hj with g|g;exact .inl g;exact .inr (by simpa using g 0 (by simp)))
    obtain ⟨zs,Vg⟩:∃zs,jx P el=some zs:=by
     unfold sI at hok
     split at hok
     ·rename_i zs _ _ q;exact ⟨_,q⟩
     ·cases hok
    have hrow:=sP (e:=e) (n:=n.toNat) Vg (z:=zv) (by simp [zeroOf,hi,hz]) (by omega) (ps:=[.ints ki n.toNat (List.replicate n.toNat 0)]) (by rw [hki])
    have jn:(Builtin.zeroCells zv.cells n.toNat).toList.length=n.toNat:=by rw [cm,hzs];omega
    have hge:0+n.toNat<=grownCap w (0+n.toNat) 0 el:=by unfold grownCap;simp [Question.cut]
    have hps:av [SV.ints ki n.toNat (List.replicate n.toNat 0)]=n.toNat:=by simp [av,gS]
    have R2:=(R.drawn (w.drawn+1)).make (j:=j) (t:=el) (ps:=[.ints ki n.toNat (List.replicate n.toNat 0)]) (ys:=(Builtin.zeroCells zv.cells n.toNat).toList++(Builtin.zeroCells zv.cells (grownCap w (0+n.toNat) 0 el-(0+n.toNat))).toList) (by simpa using hj)
     (by rw [hps,aaI (by omega),aao (by omega)];exact hrow)
     (by rw [hps,aar,jn];omega)
    refine ⟨_,_,_,_,(by simp only [aaq,hrun,aak,aax];try rfl),.inl rfl,.inr ⟨_,grownCap w (0+n.toNat) 0 el,0,di,by rw [abC],λ_=>by simp,by omega,(λq=>by cases q),by omega,λ_=>?_⟩,R2,bW.of_le (gM hfree) rfl _⟩
    show 0+0*1+grownCap w (0+n.toNat) 0 el*1<=_
    rw [aar,jn,cm,hzs]
    dsimp only
    omega
 ·cases ha
 ·rename_i el d hni ht hu
  have hd:∀k,d≠.int k:=λk q=>hni k (by rw [q])
  split at ha
  ·rename_i z cy py ny hok sW kQ
   obtain ⟨i,zv,hi,hsz,hz,hzs,hby⟩:=mg hok
   have key:∀(a:Option Addr) (pp:Bool),jO h j 1->x'= .slice a 0 0->py=true->cj (z+1) y=true->ny<=2^38->
     cz B e j ⟨.sl j 0 0 (z+1) ny ny false true,h,[.b cy],none,pp⟩ ((do pure (.value (<-Builtin.append_ #[sT,xT] ty #[x',y'])):Sem Next).run P w):=λa pp hj hx' Du hrow gU=>by
    subst hx' Du
    obtain ⟨ys,hys,gk,hlen,hf⟩:=aY (P:=P) R sW kQ hy hrow
    obtain ⟨vA,oY,kR,yx,BS⟩:=aY (P:=P) (R.drawn (w.drawn+1)) sW kQ hy hrow
    by_cases h0:ny=0
    ·subst h0
     have uW:ys=[]:=aaw.1 (by rw [gk];simp)
     subst uW
     have hrun:=bJ (w:=w) (w':=w) (ty:=ty) (base:=a) (sLen:=0) (sCap:=0) (news:=[]) ht hu hd hi hlen (by have:=hf 0 (aaf _);rw [<-hsz] at this;simpa using this) (aaf _) (by cases a with|none=>exact .inl ⟨rfl,rfl⟩|some a=>exact .inr ⟨a,rfl,rfl⟩)
     refine ⟨_,w,e,_,(by simp only [aaq,hrun,aak,aax];try rfl),.inl rfl,.inl ⟨rfl,rfl,a,rfl⟩,R.nothing (by simpa using hj) hys.length.symm,bW.refl _ _⟩
    ·have hold:(Builtin.firstCells i.size 0 (.slice a 0 0)).run P w.drew= .ok ([]:List Value).toArray w.drew:=iX
     have hnew:(Builtin.firstCells i.size ny y').run P w.drew= .ok vA.toArray w.drew:=by
      have:=BS ny (aaf _)
      rw [<-hsz] at this kR
      rw [aao (by omega)] at this
      exact this
     have FK:(0+ny)*i.bytes<=140737488355328:=by
      have:ny*i.bytes<=2^38*256:=Nat.mul_le_mul gU hby
      rw [abC];omega
     have hrun:=dj (w:=w) (ty:=ty) ht hu hd hi hz hlen hold hnew (by omega) (by omega) FK
     have hcells:([]++vA++(Builtin.zeroCells zv.cells (grownCap w (0+ny) 0 el-(0+ny))).toList).length=ny*(z+1)+(grownCap w (0+ny) 0 el-(0+ny))*(z+1):=by
      simp only [List.nil_append,aar,cm,hzs,kR]
     have hge:0+ny<=grownCap w (0+ny) 0 el:=by unfold grownCap;simp [Question.cut]
     have hmul:ny*(z+1)+(grownCap w (0+ny) 0 el-(0+ny))*(z+1)=grownCap w (0+ny) 0 el*(z+1):=by rw [<-abJ];congr 1;omega
     have R2:=(R.drawn (w.drawn+1)).make (j:=j) (t:=el) (ps:=cy) (ys:=[]++vA++(Builtin.zeroCells zv.cells (grownCap w (0+ny) 0 el-(0+ny))).toList) (by simpa using hj)
      (by rw [List.nil_append,aaI (by rw [oY.length];exact aaf _),aao (by rw [oY.length];exact aaf _)];exact oY)
      (by rw [hcells, <-oY.length,kR];omega)
     have hfree:=R.free (j:=j) (by rcases hj with g|g;exact .inl g;exact .inr (by simpa using g 0 (by simp)))
     refine ⟨_,_,_,_,(by simp only [aaq,hrun,aak,aax];try rfl),.inl rfl,.inr ⟨_,grownCap w (0+ny) 0 el,0,di,by rw [abC],λ_=>by simp,by omega,(λq=>by cases q),by omega,λ_=>?_⟩,R2,bW.of_le (gM hfree) rfl _⟩
     show 0+0*(z+1)+grownCap w (0+ny) 0 el*(z+1)<=_
     rw [hcells,hmul];simp
   split at ha
   ·-- to nothing
    cases ha
    simp only [aC,aab] at hp
    rw [VR] at hx
    exact (key none _ hj hx hp.1.1 hp.1.2 hp.2).val λe v h=>wP h
   ·rename_i b o ix z' len cap ex wh
    split at ha
    ·-- to what has no room
     rename_i hem
     cases ha
     simp only [aC,aab] at hp
     have PD:ex=true/\cap=0:=by
      unfold Fq at hem
      split at hem
      ·cases hem
      ·split at hem
       ·exact ⟨rfl,aaA hem⟩
       ·cases hem
     obtain ⟨rfl,rfl⟩:=PD
     rcases hx with ⟨_,_,a,rfl⟩|⟨p,cap',a,_,rfl,_,_,hex,hlc,_⟩
     ·exact key a _ hj rfl hp.1.1 hp.1.2 hp.2
     ·obtain rfl:=hex rfl
      obtain rfl:len=0:=by omega
      exact key _ _ hj rfl hp.1.1 hp.1.2 hp.2
    split at ha
    ·-- in place
     split at ha
     ·rename_i ki mm FL hE0
      obtain ⟨⟨h1,q⟩,hw,rfl⟩:=aag.1 ha
      simp only [aC,aab] at hp
      obtain ⟨⟨⟨rfl,hrow⟩,hfit⟩,rfl⟩:=hp
      obtain ⟨ys,hys,gk,hlen,hf⟩:=aY (P:=P) R sW kQ hy hrow
      rw [ad3] at gk
      obtain ⟨us,gj,jZ⟩:=hys
      rw [PR] at gj;subst gj
      rw [aaz] at jZ
      have aaW:∀n,n<=ny->n<=FL.length->aU ki (FL.take n)=ys.take n:=λn hn hn2=>by
       rw [jZ, <-cw]
       congr 1
       apply abf
       intro j
       by_cases hj:j<n
       ·have Vc:j<mm:=by
         have:=adX List.length jZ
         rw [gk,aF,aT] at this;omega
        rw [aa9 hj,aa9 hj,iC _ Vc,List.getD,aai (by omega)];rfl
       ·rw [aa8,aaC hj,aa8,aaC hj]
      rcases hx with ⟨rfl,rfl,a,rfl⟩|⟨p,cap',a,qg,rfl,yw,hcap,hex,hlc,hft⟩
      ·have h0:ny=0:=by omega
       subst h0
       have hrun:=bJ (w:=w) (w':=w) (ty:=ty) (base:=a) (sLen:=0) (sCap:=0) (news:=[]) ht hu hd hi hlen (by have:=hf 0 (aaf _);rw [hsz];simpa using this) (aaf _) (by cases a with|none=>exact .inl ⟨rfl,rfl⟩|some a=>exact .inr ⟨a,rfl,rfl⟩)
       refine ⟨_,w,e,_,(by simp only [aaq,hrun,aak,aax];try rfl),.inl rfl,.inl ⟨rfl,rfl,a,rfl⟩,?_,bW.refl _ _⟩
       rw [bz]
       exact jB R hw
      ·obtain ⟨w',hst,R'⟩:=oV (P:=P) R hw qg
       have aaX:ny<=FL.length:=by
        obtain ⟨_,_,_,_,_,_,_,_,_,_,_,h⟩:=iE hw;exact h
       by_cases h0:ny=0
       ·subst h0
        have hrun:=bJ (w:=w) (w':=w) (ty:=ty) (base:=some ⟨p.n,a,none⟩) (sLen:=len) (sCap:=cap') (news:=[]) ht hu hd hi hlen (by have:=hf 0 (aaf _);rw [hsz];simpa using this) (by omega) (.inr ⟨_,rfl,rfl⟩)
        refine ⟨_,w,e,_,(by simp only [aaq,hrun,aak,aax];try rfl),.inl rfl,.inr ⟨p,cap',a,qg,rfl,yw,hcap,hex,by omega,hft⟩,?_,bW.refl _ _⟩
        rw [bz]
        exact jB R hw
       ·have uJ:=yw (by omega)
        have PF:(⟨p.n,a,none⟩:Addr).add (len*i.size)=⟨p.n,p.base+(o+(ix+len)),none⟩:=by rw [dP,hsz,uJ];congr 1;omega
        have hrun:=bJ (w:=w) (w':=w') (ty:=ty) (base:=some ⟨p.n,a,none⟩) (sLen:=len) (sCap:=cap') (news:=ys.take (ny*1)) ht hu hd hi hlen (by rw [hsz];exact hf ny (aaf _)) (by omega)
         (.inr ⟨_,rfl,by rw [PF,ad3, <-aaW ny (aaf _) aaX];exact hst⟩)
        refine ⟨_,w',e,_,(by simp only [aaq,hrun,aak,aax];try rfl),.inl rfl,.inr ⟨p,cap',a,qg,rfl,yw,hcap,hex,by omega,hft⟩,?_,bW.refl _ _⟩
        rw [bz]
        exact R'
     ·rename_i ki mm FL hE0
      split at ha
      case h_2=>cases ha
      obtain ⟨⟨h1,q⟩,hw,rfl⟩:=aag.1 ha
      simp only [aC,aab] at hp
      obtain ⟨⟨⟨rfl,hrow⟩,hfit⟩,rfl⟩:=hp
      unfold U5 at hw
      split at hw
      case h_2=>cases hw
      rename_i k' m PG hb
      split at hw
      case isFalse=>cases hw
      rename_i hkk
      subst hkk
      simp only [No,aae,aac,aab] at hw
      obtain ⟨rfl,⟨gl,N5⟩,PI⟩:=hw
      subst N5
      obtain ⟨ys,hys,gk,hlen,hf⟩:=aY (P:=P) R sW kQ hy hrow
      rw [ad3] at gk
      obtain ⟨us,gj,jZ⟩:=hys
      rw [PR] at gj;subst gj
      rw [aaz] at jZ
      have Vc:mm=ny:=by
       have:=adX List.length jZ
       rw [gk,aF,aT] at this;omega
      subst Vc
      rw [bN PI] at jZ
      have hff:(Builtin.firstCells i.size mm y').run P w= .ok ys.toArray w:=by
       have:=hf mm (aaf _)
       rw [aao (by omega)] at this
       rw [hsz];exact this
      have jN:av [SV.ints k' len PG]=len:=by simp [av,gS]
      have hone:∀v∈ys,v.oneCell'=true:=λv hv=>by
       rw [jZ] at hv
       obtain ⟨n,_,rfl⟩:=List.mem_map.1 hv
       rfl
      rcases hx with ⟨rfl,rfl,a,rfl⟩|⟨p,cap',a,qg,rfl,yw,hcap,hex,hlc,hft⟩
      ·have h0:mm=0:=by omega
       subst h0
       have xW:ys=[]:=aaw.1 (by omega)
       subst xW
       have hrun:=bJ (w:=w) (w':=w) (ty:=ty) (base:=a) (sLen:=0) (sCap:=0) (news:=[]) ht hu hd hi hlen hff (aaf _) (by cases a with|none=>exact .inl ⟨rfl,rfl⟩|some a=>exact .inr ⟨a,rfl,rfl⟩)
       refine ⟨_,w,e,_,(by simp only [aaq,hrun,aak,aax];try rfl),.inl rfl,.inl ⟨rfl,rfl,a,rfl⟩,?_,bW.refl _ _⟩
       rw [bz]
       have uY:PG=[]:=aaw.1 gl
       have hy0:FL=[]:=aaw.1 PI
       subst uY hy0
       exact R.same hb (λ_ g=>g) rfl
      ·obtain ⟨c,t,hcell,FJ,afl,nt⟩:=R.block qg hb
       by_cases hc0:cap'=0
       ·have An:len=0:=by omega
        have h0:mm=0:=by omega
        subst hc0 An h0
        have xW:ys=[]:=aaw.1 (by omega)
        subst xW
        have hrun:=bJ (w:=w) (w':=w) (ty:=ty) (base:=some ⟨p.n,a,none⟩) (sLen:=0) (sCap:=0) (news:=[]) ht hu hd hi hlen hff (aaf _) (.inr ⟨_,rfl,rfl⟩)
        refine ⟨_,w,e,_,(by simp only [aaq,hrun,aak,aax];try rfl),.inl rfl,.inl ⟨rfl,by omega,_,rfl⟩,?_,bW.refl _ _⟩
        rw [bz]
        have uY:PG=[]:=aaw.1 gl
        have hy0:FL=[]:=aaw.1 PI
        subst uY hy0
        exact R.same hb (λ_ g=>g) rfl
       ·have uJ:=yw hc0
        have Ds:=hft hc0
        obtain ⟨zs,hzn,Z7⟩:=nt
        rw [PR] at hzn;subst hzn
        rw [aaz,bN gl] at Z7
        have hnew:av [SV.ints k' (len+mm) (PG++FL)]=len+mm:=by simp [av,gS]
        obtain ⟨w',hst,R'⟩:=R.yt (P:=P) (ps:=[SV.ints k' len PG]) qg hcell FJ ys [SV.ints k' (len+mm) (PG++FL)] (by rw [jN];omega) (by rw [hnew,jN];omega) hone
         ⟨[],rfl,by rw [Z7,jZ,bN (by rw [aar];omega),fL,aaz]⟩
        have PF:(⟨p.n,a,none⟩:Addr).add (len*i.size)=⟨p.n,p.base+av [SV.ints k' len PG],none⟩:=by rw [dP,hsz,uJ,jN];congr 1;omega
        have hrun:=bJ (w:=w) (w':=w') (ty:=ty) (base:=some ⟨p.n,a,none⟩) (sLen:=len) (sCap:=cap') (news:=ys) ht hu hd hi hlen hff (by omega) (.inr ⟨_,rfl,by rw [PF];exact hst⟩)
        refine ⟨_,w',e,_,(by simp only [aaq,hrun,aak,aax];try rfl),.inl rfl,.inr ⟨p,cap',a,qg,rfl,yw,hcap,hex,by omega,hft⟩,?_,bW.refl _ _⟩
        rw [bz]
        exact R'
     ·cases ha
    ·-- anywhere
     split at ha
     ·rename_i cx px rH
      split at ha
      ·rename_i hc
       simp only [aac,aab] at hc
       obtain ⟨⟨⟨BP,rfl⟩,aaZ⟩,hno⟩:=hc
       cases ha
       simp only [aC,aab] at hp
       obtain ⟨⟨⟨⟨rfl,rfl⟩,Z8⟩,hrow⟩,gU⟩:=hp
       have hB:B.e.r b=none:=by
        cases hq:B.e.r b with
        |none=>rfl
        |some p=>have:=hk b p hq;have:=aaP BP;omega
       obtain ⟨ps,hb⟩:∃ps,h[b]? =some (.b ps):=by
        unfold cu at rH
        simp only at rH
        split at rH
        ·rename_i ps hps;exact ⟨ps,hps⟩
        ·cases rH
       obtain ⟨xs,hxs,gl,afn,Vf⟩:=aY (P:=P) (z:=z+1) R rH (n:=len) rfl hx (by simp [cj])
       obtain ⟨ys,hys,gk,hlen,hf⟩:=aY (P:=P) R sW kQ hy hrow
       have BT:=me hxs hys Z8
       have uX:av (lE cx cy)=(len+ny)*(z+1):=by
        have:=BT.length
        rw [aar,gl,gk, <-abJ] at this;exact this.symm
       -- on new ground
       have grow:∀(base:Option Addr) (sCap:Nat),x'= .slice base len sCap->sCap<len+ny->cz B e j ⟨.sl b 0 0 (z+1) (len+ny) (len+ny) false true,h.set b (.b (lE cx cy)),[],some b,true⟩ ((do pure (.value (<-Builtin.append_ #[sT,xT] ty #[x',y'])):Sem Next).run P w):=λbase sCap hx' hlt=>by
        subst hx'
        obtain ⟨xV,As,nu,_,At⟩:=aY (P:=P) (z:=z+1) (R.drawn (w.drawn+1)) rH (n:=len) rfl hx (by simp [cj])
        obtain ⟨vA,oY,kR,yx,BS⟩:=aY (P:=P) (R.drawn (w.drawn+1)) sW kQ hy hrow
        have hold:(Builtin.firstCells i.size len (.slice base len sCap)).run P w.drew= .ok xV.toArray w.drew:=by
         have:=At len (aaf _)
         rw [aao (by omega), <-hsz] at this
         exact this
        have hnew:(Builtin.firstCells i.size ny y').run P w.drew= .ok vA.toArray w.drew:=by
         have:=BS ny (aaf _)
         rw [aao (by omega), <-hsz] at this
         exact this
        have FK:(len+ny)*i.bytes<=140737488355328:=by
         have:(len+ny)*i.bytes<=2^38*256:=Nat.mul_le_mul gU hby
         omega
        have hrun:=dj (w:=w) (ty:=ty) ht hu hd hi hz hlen hold hnew hlt (by omega) FK
        have hge:len+ny<=grownCap w (len+ny) sCap el:=by unfold grownCap;simp [Question.cut]
        have hcells:(xV++vA++(Builtin.zeroCells zv.cells (grownCap w (len+ny) sCap el-(len+ny))).toList).length=grownCap w (len+ny) sCap el*(z+1):=by
         simp only [aar,cm,hzs,kR,nu, <-abJ];congr 1;omega
        have wQ:=me As oY Z8
        refine ⟨_,_,kN e b ⟨w.heap.size,0,grownCap w (len+ny) sCap el*(z+1)⟩,_,(by simp only [aaq,hrun,aak,aax];try rfl),.inl rfl,.inr ⟨_,grownCap w (len+ny) sCap el,0,di,rfl,λ_=>by simp,hge,(λq=>by cases q),hge,λ_=>by simp⟩,?_,⟨λi p hi Kk=>?_,λ_ _ h=>h,aaf _,rfl⟩⟩
        ·rw [bz]
         refine R.rebind hB hb hno rfl rfl rfl (by rw [World.size_alloc];exact Nat.le_succ _) (λn hn _=>?_) (.inl (aaf _)) (heap_alloc_new _ _) (by rw [abC, <-hcells];exact aaf _) (by rw [uX];exact aaD _ hge) ?_
         ·exact heap_alloc_old w.drew _ n hn
         ·simp only [adN]
          rw [aaI (by rw [uX,aar,nu,kR, <-abJ];exact aaf _),aao (by rw [uX,aar,nu,kR, <-abJ];exact aaf _)]
          exact wQ
        ·show (if i=b then _ else e.r i)=some p
         rw [aaC (λq=>hi (by rw [q]))];exact Kk
       rcases hx with ⟨rfl,rfl,a,rfl⟩|⟨p,cap',a,qg,rfl,yw,hcap,hex,hlc,hft⟩
       ·by_cases h0:ny=0
        ·subst h0
         have hrun:=bJ (w:=w) (w':=w) (ty:=ty) (base:=a) (sLen:=0) (sCap:=0) (news:=[]) ht hu hd hi hlen (by have:=hf 0 (aaf _);rw [hsz];simpa using this) (aaf _) (by cases a with|none=>exact .inl ⟨rfl,rfl⟩|some a=>exact .inr ⟨a,rfl,rfl⟩)
         refine ⟨_,w,e,_,(by simp only [aaq,hrun,aak,aax];try rfl),.inl rfl,.inl ⟨rfl,rfl,a,rfl⟩,?_,bW.refl _ _⟩
         rw [bz]
         have uY:xs=[]:=aaw.1 (by rw [gl];simp)
         have xW:ys=[]:=aaw.1 (by rw [gk];simp)
         subst uY xW
         exact R.zero hb BT
        ·exact grow a 0 rfl (by omega)
       ·by_cases hroom:len+ny<=cap'
        ·have hoff:cap'≠0\/(len=0/\ny=0):=by omega
         obtain ⟨c,t,hcell,FJ,jN,nt⟩:=R.block qg hb
         by_cases hc0:cap'=0
         ·have An:len=0:=by omega
          have hn0:ny=0:=by omega
          subst hc0 An hn0
          have hrun:=bJ (w:=w) (w':=w) (ty:=ty) (base:=some ⟨p.n,a,none⟩) (sLen:=0) (sCap:=0) (news:=[]) ht hu hd hi hlen (by have:=hf 0 (aaf _);rw [hsz];simpa using this) (aaf _) (.inr ⟨_,rfl,rfl⟩)
          refine ⟨_,w,e,_,(by simp only [aaq,hrun,aak,aax];try rfl),.inl rfl,.inl ⟨rfl,rfl,_,rfl⟩,?_,bW.refl _ _⟩
          rw [bz]
          have uY:xs=[]:=aaw.1 (by rw [gl];simp)
          have xW:ys=[]:=aaw.1 (by rw [gk];simp)
          subst uY xW
          exact R.zero hb BT
         ·have uJ:=yw hc0
          have Ds:=hft hc0
          have hnews:ys.length=ny*(z+1):=gk
          have hone:∀v∈ys,v.oneCell'=true:=gL hys aaZ
          have hmul:(len+ny)*(z+1)<=cap'*(z+1):=aaD _ hroom
          have hsplit:(len+ny)*(z+1)=len*(z+1)+ny*(z+1):=abJ _ _ _
          have hst:=run_storeCells_at P p.n (a+len*(z+1)) t ys 0 c w hcell (by omega) hone
          simp only [Nat.add_zero] at hst
          have hrun:=bJ (w:=w) (ty:=ty) (base:=some ⟨p.n,a,none⟩) (sLen:=len) (sCap:=cap') (news:=ys) ht hu hd hi hlen (by have:=hf ny (aaf _);rw [hsz,this,aao (by omega)]) hroom
           (.inr ⟨_,rfl,by rw [dP,hsz];exact hst⟩)
          have oX:xs=(c.toList.drop a).take (len*(z+1)):=by
           have h1:=Vf len (aaf _)
           rw [eO hcell (by omega),aao (l:=xs) (by omega)] at h1
           have h2:((c.toList.drop a).take (len*(z+1))).toArray=xs.toArray:=(Result.ok.inj h1).1
           exact (adX Array.toList h2).symm
          refine ⟨_,_,kN e b ⟨p.n,a,cap'*(z+1)⟩,_,(by simp only [aaq,hrun,aak,aax];try rfl),.inl rfl,.inr ⟨_,cap',a,di,rfl,λ_=>by simp,hroom,(λq=>by cases q),hroom,λ_=>by simp⟩,?_,⟨λi p hi Kk=>?_,λ_ _ h=>h,aaf _,rfl⟩⟩
          ·rw [bz]
           refine R.rebind hB hb hno rfl rfl rfl (by simp [World.setRow]) (λn hn hne=>setRow_other w p.n n _ (λq=>hne p qg q.symm)) (.inr ⟨p,qg,rfl⟩) (setRow_heap w p.n c _ t (0,0) hcell) (by simp;omega) (by rw [uX];exact hmul) ?_
           rw [uX]
           have hgoal:((c.toList.take (a+len*(z+1))++ys++c.toList.drop (a+len*(z+1)+ys.length)).drop a).take ((len+ny)*(z+1))=xs++ys:=by
            rw [aaE,abh (by simp;omega),adi,adP, <-oX, <-aaE,
             aaI (by rw [aar];omega),aao (by rw [aar];omega)]
           simp only []
           rw [hgoal]
           exact BT
          ·show (if i=b then _ else e.r i)=some _
           rw [aaC (λq=>hi (by rw [q]))];exact Kk
        ·exact grow _ cap' rfl (by omega)
      ·split at ha
       case isFalse=>cases ha
       rename_i Kd
       simp only [aac,aab] at Kd
       obtain ⟨rfl,rfl⟩:=Kd
       cases ha
       simp only [aC,aab] at hp
       obtain ⟨⟨⟨⟨⟨rfl,rfl⟩,Z8⟩,hrow⟩,gU⟩,Ob⟩:=hp
       have hfree:=R.free (j:=j) (by rcases hj with g|g;exact .inl g;exact .inr (by simpa using g 0 (by simp)))
       have Oc:∀(base:Option Addr) (sCap:Nat),x'= .slice base len sCap->sCap<len+ny->cz B e j ⟨.sl j 0 0 (z+1) (len+ny) (len+ny) false true,h,[.b (lE cx cy)],none,true⟩ ((do pure (.value (<-Builtin.append_ #[sT,xT] ty #[x',y'])):Sem Next).run P w):=λbase sCap hx' hlt=>by
        subst hx'
        obtain ⟨xV,As,nu,_,At⟩:=aY (P:=P) (z:=z+1) (R.drawn (w.drawn+1)) rH (n:=len) rfl hx (by simp [cj])
        obtain ⟨FL,_,_,hlen,_⟩:=aY (P:=P) R sW kQ hy hrow
        obtain ⟨vA,oY,kR,yx,BS⟩:=aY (P:=P) (R.drawn (w.drawn+1)) sW kQ hy hrow
        have hold:(Builtin.firstCells i.size len (.slice base len sCap)).run P w.drew= .ok xV.toArray w.drew:=by
         have:=At len (aaf _)
         rw [aao (by omega), <-hsz] at this
         exact this
        have hnew:(Builtin.firstCells i.size ny y').run P w.drew= .ok vA.toArray w.drew:=by
         have:=BS ny (aaf _)
         rw [aao (by omega), <-hsz] at this
         exact this
        have FK:(len+ny)*i.bytes<=140737488355328:=by
         have:(len+ny)*i.bytes<=2^38*256:=Nat.mul_le_mul gU hby
         omega
        have hrun:=dj (w:=w) (ty:=ty) ht hu hd hi hz hlen hold hnew hlt (by omega) FK
        have hge:len+ny<=grownCap w (len+ny) sCap el:=by unfold grownCap;simp [Question.cut]
        have hcells:(xV++vA++(Builtin.zeroCells zv.cells (grownCap w (len+ny) sCap el-(len+ny))).toList).length=grownCap w (len+ny) sCap el*(z+1):=by
         simp only [aar,cm,hzs,kR,nu, <-abJ];congr 1;omega
        have wQ:=me As oY Z8
        have iI:(xV++vA).length=av (lE cx cy):=wQ.length
        have uX:av (lE cx cy)=(len+ny)*(z+1):=by
         rw [<-iI,aar,nu,kR, <-abJ]
        have R2:=(R.drawn (w.drawn+1)).make (j:=j) (t:=el) (ps:=lE cx cy) (ys:=xV++vA++(Builtin.zeroCells zv.cells (grownCap w (len+ny) sCap el-(len+ny))).toList) (by simpa using hj)
         (by rw [aaI (Nat.le_of_eq iI.symm),aao (Nat.le_of_eq iI)];exact wQ)
         (by rw [hcells,uX];exact aaD _ hge)
        refine ⟨_,_,_,_,(by simp only [aaq,hrun,aak,aax];try rfl),.inl rfl,.inr ⟨_,grownCap w (len+ny) sCap el,0,di,rfl,λ_=>by simp,hge,(λq=>by cases q),hge,λ_=>?_⟩,R2,bW.of_le (gM hfree) rfl _⟩
        show 0+0*(z+1)+grownCap w (len+ny) sCap el*(z+1)<=_
        rw [hcells];simp
       rcases hx with ⟨rfl,rfl,a,rfl⟩|⟨p,cap',a,qg,rfl,yw,hcap,hex,hlc,hft⟩
       ·exact Oc a 0 rfl Ob
       ·exact Oc _ cap' rfl (by rw [hex rfl];exact Ob)
     ·cases ha
   ·rename_i b z' len cap ex
    split at ha
    ·rename_i hem
     cases ha
     simp only [aC,aab] at hp
     have PD:ex=true/\cap=0:=by
      unfold Fs at hem
      split at hem
      ·exact ⟨rfl,aaA hem⟩
      ·cases hem
     obtain ⟨rfl,rfl⟩:=PD
     rcases hx with ⟨_,_,a,rfl⟩|⟨p,cap',a,_,rfl,_,_,hex,hlc,_⟩
     ·exact (key a _ hj (by subst_vars;rfl) hp.1.1 hp.1.2 hp.2).val λe v h=>wP h
     ·obtain rfl:=hex rfl
      obtain rfl:len=0:=by omega
      exact (key _ _ hj rfl hp.1.1 hp.1.2 hp.2).val λe v h=>wP h
    ·split at ha
     ·-- so many structs
      rename_i q hq
      obtain ⟨z2,n2,g2⟩:=q
      have aa0:cy=[.rows z2 n2 g2]:=by
       unfold N3 at hq
       split at hq
       ·cases hq;rfl
       ·cases hq
      subst aa0
      split at ha
      ·rename_i zz n g hb
       split at ha
       ·rename_i hc
        simp only [aac,aab] at hc
        obtain ⟨⟨⟨⟨BP,rfl⟩,rfl⟩,rfl⟩,hno⟩:=hc
        cases ha
        simp only [aC,aab] at hp
        obtain ⟨⟨⟨rfl,uU⟩,hrow⟩,rfl,aa1,gU⟩:=hp
        have Y:Ar P w sT xT ty el i zv y' n2 (λys=>PR e [.rows (z+1) n2 g2] ys/\ys.length=n2*(z+1)):={
         fit:=by
          obtain ⟨ys,hys,gk,hlen,hf⟩:=aY (P:=P) R sW kQ hy hrow
          exact ⟨ys,⟨hys,gk⟩,λbase sLen sCap w' h1 h2=>bJ ht hu hd hi hlen (by have:=hf n2 (aaf _);rw [hsz,this,aao (by omega)]) h1 h2⟩
         grow:=by
          obtain ⟨ys,hys,gk,hlen,hf⟩:=aY (P:=P) R sW kQ hy hrow
          obtain ⟨vA,oY,kR,yx,BS⟩:=aY (P:=P) (R.drawn (w.drawn+1)) sW kQ hy hrow
          refine ⟨vA,⟨oY,kR⟩,λbase sLen sCap olds h1 h2 h3=>?_⟩
          have hnew:(Builtin.firstCells i.size n2 y').run P w.drew= .ok vA.toArray w.drew:=by
           have:=BS n2 (aaf _)
           rw [<-hsz] at this kR
           rw [aao (by omega)] at this
           exact this
          have FK:(sLen+n2)*i.bytes<=140737488355328:=by
           have:(sLen+n2)*i.bytes<=2^38*256:=Nat.mul_le_mul h3 hby
           omega
          exact dj ht hu hd hi hz hlen h1 hnew h2 (by omega) FK}
        refine n3 (P:=P) R hk (aaP BP) hsz hzs hx hb uU Y (λys hys=>⟨hys.2,FI hys.1 aa1⟩) gU hno λxs ys ⟨hys,gk⟩ hxs gl=>?_
        refine mU hxs gl gk (λi hi g1=>?_) λi hi=>?_
        ·rw [adO (show i+1<=len by omega)]
         exact jW g1
        ·rw [show Nat.ble (len+i+1) len=false from by
          cases hb:Nat.ble (len+i+1) len with
          |false=>rfl
          |true=>have:=aaP hb;omega]
         refine jX ?_
         rw [adP]
         obtain ⟨us,zs,k1,k2,k3,k4⟩:=hys
         rw [PR] at k3;subst k3
         rw [aaz] at k4;subst k4
         exact k2 i hi
       ·cases ha
      ·cases ha
     split at ha
     ·rename_i zz n g hb
      split at ha
      ·rename_i hc
       simp only [aac,aab] at hc
       obtain ⟨⟨⟨⟨⟨BP,rfl⟩,rfl⟩,Dt⟩,lF⟩,hno⟩:=hc
       cases ha
       simp only [aC,aab] at hp
       obtain ⟨⟨⟨rfl,uU⟩,hrow⟩,gU⟩:=hp
       have Y:Ar P w sT xT ty el i zv y' 1 (λys=>PR e cy ys/\ys.length=1*(z+1)):={
        fit:=by
         obtain ⟨ys,hys,gk,hlen,hf⟩:=aY (P:=P) R sW kQ hy hrow
         exact ⟨ys,⟨hys,gk⟩,λbase sLen sCap w' h1 h2=>bJ ht hu hd hi hlen (by have:=hf 1 (aaf _);rw [hsz,this,aao (by omega)]) h1 h2⟩
        grow:=by
         obtain ⟨ys,hys,gk,hlen,hf⟩:=aY (P:=P) R sW kQ hy hrow
         obtain ⟨vA,oY,kR,yx,BS⟩:=aY (P:=P) (R.drawn (w.drawn+1)) sW kQ hy hrow
         refine ⟨vA,⟨oY,kR⟩,λbase sLen sCap olds h1 h2 h3=>?_⟩
         have hnew:(Builtin.firstCells i.size 1 y').run P w.drew= .ok vA.toArray w.drew:=by
          have:=BS 1 (aaf _)
          rw [<-hsz] at this kR
          rw [aao (by omega)] at this
          exact this
         have FK:(sLen+1)*i.bytes<=140737488355328:=by
          have:(sLen+1)*i.bytes<=2^38*256:=Nat.mul_le_mul h3 hby
          omega
         exact dj ht hu hd hi hz hlen h1 hnew h2 (by omega) FK}
       refine n3 (P:=P) R hk (aaP BP) hsz hzs hx hb uU Y (λys hys=>⟨hys.2,jY hys.1 Dt⟩) gU hno λxs ys ⟨hys,gk⟩ hxs gl=>?_
       refine mU hxs gl gk (λi hi g1=>?_) λi hi=>?_
       ·rw [adO (show i+1<=len by omega)]
        exact jW g1
       ·obtain rfl:i=0:=by omega
        rw [show Nat.ble (len+0+1) len=false from by
         cases hb:Nat.ble (len+0+1) len with
         |false=>rfl
         |true=>have:=aaP hb;omega]
        refine jX ?_
        rw [Nat.zero_mul,adN,aao (by omega)]
        exact hys.closed lF
      ·-- where it is, or for sure UH
       split at ha
       case isFalse=>cases ha
       rename_i Kd
       simp only [aac,aab] at Kd
       obtain ⟨⟨⟨⟨rfl,rfl⟩,rfl⟩,Dt⟩,lF⟩:=Kd
       have Y:Ar P w sT xT ty el i zv y' 1 (λys=>PR e cy ys/\ys.length=1*(z+1))\/¬(py=true/\cj (z+1) y=true):=by
        by_cases nt:py=true/\cj (z+1) y=true
        ·obtain ⟨rfl,hrow⟩:=nt
         refine .inl {
          fit:=by
           obtain ⟨ys,hys,gk,hlen,hf⟩:=aY (P:=P) R sW kQ hy hrow
           exact ⟨ys,⟨hys,gk⟩,λbase sLen sCap w' h1 h2=>bJ ht hu hd hi hlen (by have:=hf 1 (aaf _);rw [hsz,this,aao (by omega)]) h1 h2⟩
          grow:=by
           obtain ⟨ys,hys,gk,hlen,hf⟩:=aY (P:=P) R sW kQ hy hrow
           obtain ⟨vA,oY,kR,yx,BS⟩:=aY (P:=P) (R.drawn (w.drawn+1)) sW kQ hy hrow
           refine ⟨vA,⟨oY,kR⟩,λbase sLen sCap olds h1 h2 h3=>?_⟩
           have hnew:(Builtin.firstCells i.size 1 y').run P w.drew= .ok vA.toArray w.drew:=by
            have:=BS 1 (aaf _)
            rw [<-hsz] at this kR
            rw [aao (by omega)] at this
            exact this
           have FK:(sLen+1)*i.bytes<=140737488355328:=by
            have:(sLen+1)*i.bytes<=2^38*256:=Nat.mul_le_mul h3 hby
            omega
           exact dj ht hu hd hi hz hlen h1 hnew h2 (by omega) FK}
        ·exact .inr nt
       have hG:∀xs ys,(PR e cy ys/\ys.length=1*(z+1))->PR e [.rows (z+1) len g] xs->xs.length=len*(z+1)->PR e [.rows (z+1) (len+1) λi=>br (Nat.ble (i+1) len) (g i) cy] (xs++ys):=λxs ys ⟨hys,gk⟩ hxs gl=>by
        refine mU hxs gl gk (λi hi g1=>?_) λi hi=>?_
        ·rw [adO (show i+1<=len by omega)]
         exact jW g1
        ·obtain rfl:i=0:=by omega
         rw [show Nat.ble (len+0+1) len=false from by
          cases hb:Nat.ble (len+0+1) len with
          |false=>rfl
          |true=>have:=aaP hb;omega]
         refine jX ?_
         rw [Nat.zero_mul,adN,aao (by omega)]
         exact hys.closed lF
       cases ey with
       |true=>
        cases ha
        simp only [aC,aab] at hp
        obtain ⟨⟨⟨Du,uU⟩,hrow⟩,hfit⟩:=hp
        exact sV (P:=P) R hsz hx hb uU (Y.resolve_right λq=>q ⟨Du,hrow⟩) (λys hys=>⟨hys.2,jY hys.1 Dt⟩) hfit hG
       |false=>
        cases ha
        simp only [aC,aab] at hp
        obtain ⟨⟨⟨Du,uU⟩,hrow⟩,hlt,gU⟩:=hp
        exact rI (P:=P) R hsz hzs hj hx hb uU (Y.resolve_right λq=>q ⟨Du,hrow⟩) (λys hys=>⟨hys.2,jY hys.1 Dt⟩) hlt gU hG
     ·cases ha
   ·cases ha
  ·cases ha
 ·cases ha
end
end Go.Sy
namespace Go.Sy
open Go
section
variable {P:Program} {e:Env} {B:cP} {h:List Blk} {w:World}
theorem yy (R:Rel B e h w) {dT sT ty:TypeId} {x y v:SV} {x' y':Value} {h':List Blk} (hc:Ft P h dT x y=some (h',v,true)) (hx:VR e x x') (hy:VR e y y'):
  ∃v' w',(Builtin.copy_ #[dT,sT] ty #[x',y']).run P w= .ok v' w'/\VR e v v'/\Rel B e h' w':=by
 unfold Ft at hc
 split at hc
 ·rename_i el b o i len cap ex wh k mm FL p ny ht sW kQ
  split at hc
  ·rename_i hs
   obtain ⟨⟨h1,q⟩,hw,h2⟩:=aag.1 hc
   simp only [aae,aC] at h2
   obtain ⟨rfl,rfl,⟨rfl,hrow⟩,rfl⟩:=h2
   obtain ⟨ys,hys,gk,hlen,hf⟩:=aY (P:=P) R sW kQ hy hrow
   obtain ⟨us,gj,jZ⟩:=hys
   rw [PR] at gj;subst gj
   rw [aaz] at jZ
   have hfc:=hf (Nat.min ny len) (Nat.min_le_left _ _)
   rw [ad3] at hfc gk
   obtain ⟨info,hi,hsz⟩:=vu hs
   have hrun:∀(base:Option Addr) (cap:Nat) (w':World),x'= .slice base len cap->((base=none/\w'=w)\/∃a,base=some a/\(storeCells a (ys.take (Nat.min ny len)) 0).run P w= .ok () w')->
     (Builtin.copy_ #[dT,sT] ty #[x',y']).run P w= .ok (.int .i64 (Nat.min ny len)) w':=λbase cap w' hx' hst=>by
    subst hx'
    unfold Builtin.copy_
    simp only [adv,aa2,acD,aaq,aas ht,aak,hlen,bR hs,hfc]
    rcases hst with ⟨rfl,rfl⟩|⟨a,rfl,hr⟩
    ·simp [goInt]
    ·simp [hr,goInt]
   rcases hx with ⟨rfl,rfl,a,hx'⟩|⟨pl,cap',a,qg,hx',yw,hcap,hex,hlc,hft⟩
   ·have h0:Nat.min ny 0=0:=Nat.min_eq_right (aap _)
    rw [h0] at hw
    refine ⟨_,w,hrun a 0 w hx' ?_,rfl,jB R hw⟩
    cases a with
    |none=>exact .inl ⟨rfl,rfl⟩
    |some a=>exact .inr ⟨a,rfl,by rw [h0];rfl⟩
   ·by_cases h0:Nat.min ny len=0
    ·rw [h0] at hw
     exact ⟨_,w,hrun _ cap' w hx' (.inr ⟨_,rfl,by rw [h0];rfl⟩),by rw [h0];rfl,jB R hw⟩
    ·obtain ⟨w',hst,R'⟩:=oV (P:=P) R hw qg
     have hle:Nat.min ny len<=len:=Nat.min_le_right _ _
     have uJ:=yw (by omega)
     refine ⟨_,w',hrun _ cap' w' hx' (.inr ⟨_,rfl,?_⟩),rfl,R'⟩
     obtain ⟨_,_,_,_,_,_,_,_,_,_,_,nI⟩:=iE hw
     have hcells:aU k (FL.take (Nat.min ny len))=ys.take (Nat.min ny len):=by
      rw [jZ, <-cw]
      congr 1
      apply abf
      intro j
      have Vc:mm=ny:=by
       have:=adX List.length jZ
       rw [gk,aF,aT] at this;exact this.symm
      by_cases hj:j<Nat.min ny len
      ·have h1:Nat.min ny len<=ny:=Nat.min_le_left ny len
       rw [aa9 hj,aa9 hj,iC _ (by omega),List.getD,aai (by omega)];rfl
      ·rw [aa8,aaC hj,aa8,aaC hj]
     rw [<-hcells,uJ,ad3]
     exact hst
  ·cases hc
 ·cases hc
theorem yz {xs:List Int} (h:Pr xs=true):gR (strOfNums xs)=xs:=by
 unfold gR strOfNums
 simp only [List.map_map]
 have:∀l:List Int,Pr l=true->l.map ((λb:UInt8=>(b.toNat:Int)) ∘ λn=>UInt8.ofNat n.toNat)=l:=by
  intro l
  induction l with
  |nil=>intro _;rfl
  |cons n l ih=>
   intro hl
   simp only [Pr,List.all_cons,aac,aab] at hl
   rw [List.map_cons,ih (by simpa [Pr] using hl.2)]
   congr 1
   show ((UInt8.ofNat n.toNat).toNat:Int)=n
   rw [UInt8.toNat_ofNat']
   omega
 exact this xs h
theorem sX (R:Rel B e h w) {src dst el:TypeId} {a:SV} {a':Value} {m:Nat} {xs:List Int} {n:Nat} (hs:P.underlying src=some (.slice el)) (hd:P.underlying dst=some .string) (he:isInt P el=some .u8)
  (hc:cu h a=some ([.ints .u8 m xs],true)) (hn:oK a=some n) (hrow:cj 1 a=true) (JU:∀s,a≠.str s) (hl:xs.length=m) (hu:Pr xs=true) (ha:VR e a a'):
  (convert src dst a').run P w= .ok (.string (strOfNums xs)) w:=by
 obtain ⟨ys,hys,gk,hlen,hf⟩:=aY (P:=P) R hc hn ha hrow
 obtain ⟨us,gj,jZ⟩:=hys
 rw [PR] at gj;subst gj
 rw [aaz,bN hl] at jZ
 rw [ad3] at gk
 have hf':=hf n (aaf _)
 rw [ad3,aao (by omega),jZ] at hf'
 have he':=jV he
 rcases sQ ha hn with ⟨ad,c,rfl⟩|⟨s,_,_,s',q⟩
 ·cases ad with
  |none=>
   have:xs=[]:=by
    simp [Builtin.firstCells] at hf'
    cases xs with
    |nil=>rfl
    |cons x xs=>simp [aU] at hf'
   subst this
   rw [run_convert_bytes_nil w src el hs he' n c dst hd]
   rfl
  |some ad=>
   have iI:(loadCells ad n).run P w= .ok (xs.map (Value.int .u8)).toArray w:=by
    simpa [Builtin.firstCells,aU] using hf'
   rw [run_convert_bytes_string w src dst el _ n c hs he' hd,run_bytesToString w _ n c xs iI,foldl_push_bytes]
   simp [strOfNums,ByteArray.empty,ByteArray.emptyWithCapacity]
   rfl
 ·exact absurd q (JU s')
theorem sY (R:Rel B e h w) {src dst el:TypeId} {s:ByteArray} (hs:(P.underlying src).isSome=true) (hd:P.underlying dst=some (.slice el)) (he:isInt P el=some .u8):
  ∃v' w' e',(convert src dst (.string s)).run P w= .ok v' w'/\VR e' (.ro true .u8 (gR s)) v'/\Rel B e' h w'/\bW e e' none:=by
 obtain ⟨d,Kl⟩:=Option.isSome_iff_exists.1 hs
 have he':=jV he
 have Vh:(convert src dst (.string s)).run P w=(Conv.stringToBytes el s).run P w:=by
  cases d<;>simp [convert,aas Kl,aas hd,aas he']
 let cap:=(Question.appendCap s.size 0 el).cut (w.tape w.drawn (.appendCap s.size 0 el))
 have hcap:s.size<=cap:=by simp [cap,Question.cut]
 let cells:Array Value:=(s.data.map λb=>Value.int .u8 b.toNat)++Array.replicate (cap-s.size) (.int .u8 0)
 have hcs:cells.size=cap:=by
  have:s.data.size=s.size:=rfl
  simp [cells];omega
 have Oa:(choose (.appendCap s.size 0 el)).run P w= .ok cap w.drew:=by simp [Question.forced,cap]
 let w1:World:=w.drew.alloc (.cells cells el)
 have hw1:w1.heap[w.heap.size]? =some (.cells cells el (0,0)):=heap_alloc_new _ _
 let w2:=w1.freeze ⟨w.heap.size,cells.size,none⟩ 1
 have hfz:w2.heap[w.heap.size]? =some (.cells cells el (cells.size,cells.size+1)):=by
  have hlt:w.heap.size<w1.heap.size:=(aav.1 hw1).1
  have hv:w1.heap[w.heap.size]= .cells cells el (0,0):=(aav.1 hw1).2
  simp only [w2,World.freeze]
  rw [aaC (by omega)]
  simp only []
  rw [Array.getElem?_eq_getElem (by simpa using hlt),Array.getElem_modify]
  simp [hv]
 have cV:∀n,n<w.heap.size->w2.heap[n]? =w.heap[n]? :=λn hn=>by
  simp only [w2,World.freeze]
  rw [aaC (by omega)]
  simp only []
  rw [Array.getElem?_modify,aaC (by omega)]
  exact heap_alloc_old w.drew _ n hn
 have hsize:w2.heap.size=w.heap.size+1:=by
  simp only [w2,World.freeze]
  rw [aaC (by omega)]
  simp only [Array.size_modify]
  exact World.size_alloc _ _
 have hrun:(Conv.stringToBytes el s).run P w= .ok (.slice (some ⟨w.heap.size,0,none⟩) s.size cap) w2:=by
  unfold Conv.stringToBytes
  rw [aaq,Oa,aak]
  simp only [aaq,newRow,newObj]
  have hn:(Sem.new (.cells cells el) Sem.pure).run P w.drew= .ok w.heap.size w1:=rfl
  have hmk:(markStringish ⟨w.heap.size,0,none⟩).run P w1= .ok () w2:=by
   unfold markStringish
   simp only [aaq]
   have:(shape w.heap.size).run P w1= .ok (some (el,cells.size)) w1:=by
    show Result.ok (w1.shape? w.heap.size) w1=_
    simp [World.shape?,hw1]
   rw [this]
   rfl
  rw [show (Sem.new (.cells ((s.data.map λb=>Value.int .u8 b.toNat)++Array.replicate (cap-s.size) (.int .u8 0)) el) Sem.pure).run P w.drew= .ok w.heap.size w1 from rfl]
  simp only [aak,aax,hmk]
 let e':Env:={e with z:=λn=>if n=w.heap.size then some (cells,el,(cells.size,cells.size+1)) else e.z n}
 have UI:e.z w.heap.size=none:=by
  cases hq:e.z w.heap.size with
  |none=>rfl
  |some x=>have:=R.JQ hq;omega
 have hle:Env.Le e e':=⟨λ_ _ h=>h,λn o hn=>by
  show (if n=w.heap.size then _ else e.z n)=some o
  rw [aaC (λq=>by subst q;rw [UI] at hn;cases hn)];exact hn,aaf _⟩
 have hn0:e.n0<=w.heap.size:=by have:=R.n0;have:=R.cI;have:=R.size;omega
 refine ⟨_,w2,e',by rw [Vh,hrun],.inr ⟨w.heap.size,0,cap,cells,el,_,by rw [eH],aaM rfl,λ_=>hn0,?_,by rw [eH];exact hcap,by omega⟩,?_,bW.of_le hle rfl _⟩
 ·have:cells.toList=aU .u8 (gR s)++List.replicate (cap-s.size) (.int .u8 0):=by
   simp [cells,aU,gR]
  rw [this,adN,aaI (by rw [aF];exact aaf _),aao (by rw [aF];exact aaf _)]
 ·exact {
   os:=R.os,tape:=R.tape,output:=R.output
   size:=by have:=R.size;omega
   inj:=R.inj,dom:=R.dom
   sep:=λi p hi=>by
    show (if p.n=w.heap.size then _ else e.z p.n)=none
    rw [aaC (by have:=R.lt hi;omega)];exact R.sep i p hi
   eU:=λn c t fr hz=>by
    by_cases hn:n=w.heap.size
    ·subst hn
     have oQ:(if w.heap.size=w.heap.size then some (cells,el,(cells.size,cells.size+1)) else e.z w.heap.size)=some (c,t,fr):=hz
     rw [aaM rfl] at oQ
     cases oQ
     exact hfz
    ·have oQ:(if n=w.heap.size then some (cells,el,(cells.size,cells.size+1)) else e.z n)=some (c,t,fr):=hz
     rw [aaC hn] at oQ
     rw [cV n (R.JQ oQ)];exact R.eU n c t fr oQ
   bp:=λn x hz=>by
    by_cases hn:n=w.heap.size
    ·exact .inr (by have:=R.size;omega)
    ·have oQ:(if n=w.heap.size then some (cells,el,(cells.size,cells.size+1)) else e.z n)=some x:=hz
     rw [aaC hn] at oQ
     exact R.bp n x oQ
   dU:=λg k xs hg=>(R.dU g k xs hg).imp λc ⟨t,fr,h1,h2⟩=>⟨t,fr,hle.z _ _ h1,h2⟩
   news:=R.news,bA:=R.bA
   bM:=λn x hz=>hle.z n x (R.bM n x hz)
   n0:=R.n0,cI:=R.cI
   ew:=λi qs hi=>by
    rcases R.ew i qs hi with g|⟨p,o,g1,g2,g3⟩
    ·exact .inl g
    ·exact .inr ⟨p,o,g1,by rw [cV p.n (R.lt g1)];exact g2,g3.mono hle⟩
   gap:=λi g hi=>⟨(R.gap i g hi).1,(R.gap i g hi).2.le (λn o hn=>by rw [cV n (aav.1 hn).1];exact hn) rfl hle⟩
   yi:=R.yi,yb:=R.yb
   old:=λn hn hno nI=>by rw [cV n (by have:=R.size;omega)];exact R.old n hn hno nI
   win:=λi p hi=>by
    obtain ⟨o,o',ho,ho',JR⟩:=R.win i p hi
    exact ⟨o,o',ho,by rw [cV p.n (R.lt (R.bA i p hi))];exact ho',JR⟩
   kr:=R.kr,fO:=R.fO
   fc:=λr hr=>by
    have:=R.fc r hr
    rw [cV r (aav.1 this.1).1];exact this
   gJ:=R.gJ}
end
end Go.Sy
namespace Go.Sy
open Go
def wF (ro:Option Nat):Fence:={Fence.wide with round:=ro}
def mh (P:Program) (f:Fn) (args:Array Value) (w:World) (R:Value->World->Prop):Prop:=match f with
 | .func f=>(∃v w',(callFunc f args).run P w= .ok (.value v) w'/\R v w')\/
  ((callFunc f args).run P w= .ok (.enter f args) w/\Calls P f args w λe w'=>∃v,e= .returned v/\R v w')
 | .yield l=>∃fn tmps sw body,(Instr.yield l args).run P w= .ok (.round l fn tmps sw body) w/\∀ro n,RoundIn (wF ro) n P l fn tmps sw body w λe w'=>∃v,e= .returned v/\R v w'
 |_=>False
theorem mh.mono {P:Program} {f:Fn} {args:Array Value} {w:World} {R R':Value->World->Prop} (h:mh P f args w R) (hr:∀v w',R v w'->R' v w'):mh P f args w R':=by
 cases f with
 |func f=>
  rcases h with ⟨v,w',e,h⟩|⟨e,h⟩
  ·exact .inl ⟨v,w',e,hr _ _ h⟩
  ·refine .inr ⟨e,?_⟩
   intro cs
   obtain ⟨e,w',fr,⟨v,he,hv⟩,rest⟩:=h cs
   exact ⟨e,w',fr,⟨v,he,hr _ _ hv⟩,rest⟩
 |yield l=>
  obtain ⟨fn,tmps,sw,body,h1,h2⟩:=h
  exact ⟨fn,tmps,sw,body,h1,λro n=>RoundIn.mono (h2 ro n) λe w' ⟨v,g1,g2⟩=>⟨v,g1,hr _ _ g2⟩⟩
 |_=>exact h.elim
def fnG (g:Fi):bH:=λf vs h j=>match f with
 | .func f=>g f vs h j
 |_=>none
def mj (P:Program) (G:bH):Prop:=
 ∀f vs h j v h' new,G f vs h j=some (v,h',new,true)->∀(B:cP) (e:Env) (w:World) (args:List Value),LR e vs args->Rel B e h w->jO h j new.length->
  mh P f ⟨args⟩ w λv' w'=>∃e',VR e' v v'/\Rel B e' (bI h' j new) w'/\bW e e' none
theorem Dv (P:Program) (ro:Option Nat) (m:Machine):m.fenced P (wF ro):=by
 intro g _
 exact ⟨λh=>by simp [wF,Fence.wide] at h,.inl trivial,λ_ _=>trivial,λ_ h=>by simp [wF,Fence.wide] at h⟩
theorem sZ {P:Program} {ro:Option Nat} {m m':Machine}:StepsIn (Machine.fenced P (wF ro)) P m m'↔Steps P m m':=
 ⟨StepsIn.steps,λh=>(StepsIn.of_steps h).mono λm _=>Dv P ro m⟩
theorem n4 {ro:Option Nat} {n:Nat} {P:Program} {f:FuncId} {args:Array Value} {w:World} {R:Ending->World->Prop}:CallsIn (wF ro) n P f args w R↔Calls P f args w R:=by
 have hc:∀{m m':Machine} {e:Ending},ComesIn (Machine.fenced P (wF ro)) P m m' e↔Comes P m m' e:=λ{m m' e}=>by
  cases e with
  |returned v=>exact sZ
  |panicked chain=>exact sZ
  |outgrown=>exact Iff.rfl
 exact ⟨λh cs=>let ⟨e,w',fr,r,s,x⟩:=h.2 cs (λ_ h=>by simp [wF,Fence.wide] at h);⟨e,w',fr,r,hc.1 s,x⟩,
  λh=>⟨trivial,λcs _=>let ⟨e,w',fr,r,s,x⟩:=h cs;⟨e,w',fr,r,hc.2 s,x⟩⟩⟩
def Km (P:Program) (g:Fi):Prop:=
 ∀f vs h j v h' new,g f vs h j=some (v,h',new,true)->∀(B:cP) (e:Env) (w:World) (args:List Value),LR e vs args->Rel B e h w->jO h j new.length->
  mh P (.func f) ⟨args⟩ w λv' w'=>∃e',VR e' v v'/\Rel B e' (bI h' j new) w'/\bW e e' none
section
variable {P:Program} {e:Env} {B:cP} {h:List Blk} {w:World}
theorem cz.value {j:Nat} {v:SV} {v':Value} {s:Sem Value} (R:Rel B e h w) (hr:s.run P w= .ok v' w) (hv:VR e v v'):cz B e j (.of h (v,true)) ((do pure (.value (<-s)):Sem Next).run P w):=
 ⟨.value v',w,e,v',by simp [hr],.inl rfl,hv,by show Rel B e (bI h j []) w;rw [bz];exact R,bW.refl _ _⟩
theorem cz.nL {j:Nat} {v:SV} {v':Value} (R:Rel B e h w) (hv:VR e v v'):cz B e j (.of h (v,true)) ((pure (.value v'):Sem Next).run P w):=
 ⟨.value v',w,e,v',rfl,.inl rfl,hv,by show Rel B e (bI h j []) w;rw [bz];exact R,bW.refl _ _⟩
theorem cz.make {j:Nat} {v:SV} {v':Value} {ps:List SV} {ys:List Value} {el:TypeId} {s:Sem Value} {r:jr} (R:Rel B e h w) (hf:jO h j 1) (hl:PR e ps (ys.take (av ps))) (hle:av ps<=ys.length)
  (hr:s.run P w= .ok v' (w.alloc (.cells ⟨ys⟩ el))) (hv:VR (kN e j ⟨w.heap.size,0,ys.length⟩) v v') (h1:r.v=v) (h2:r.h=h) (h3:r.new=[.b ps]):cz B e j r ((do pure (.value (<-s)):Sem Next).run P w):=by
 have hj:j=h.length\/h[j]? =some .gap:=hf.imp id λg=>by simpa using g 0 (by omega)
 exact ⟨.value v',w.alloc (.cells ⟨ys⟩ el),kN e j ⟨w.heap.size,0,ys.length⟩,v',(by simp only [aaq,hr,aak,aax]),.inl rfl,(by rw [h1];exact hv),(by rw [h2,h3];exact R.make hf hl hle),bW.of_le (gM (R.free hj)) rfl _⟩
theorem mo {t:List (Option SV)} {t':List Value} {d:List Deferred} (h:TR e t t'):∀(ps:List (Nat×Operand)) (vs:List SV),rF t (ps.map (·.2))=some vs->
  VP e ((ps.map (·.1)).zip vs) (ps.map λ(i,x)=>(i,Act.eval ⟨⟨t'⟩,d⟩ x))
 | [],vs,_=>by simp [VP]
 |(i,x)::ps,vs,g=>by
  simp only [List.map_cons,rF] at g
  split at g
  ·rename_i v vs' hx hxs
   cases g
   exact ⟨_,_,aK h hx,mo h ps vs' hxs,rfl⟩
  ·cases g
theorem map_toArray (ps:Array (Nat×Operand)) (f:Operand->Value):(ps.map λ(i,x)=>(i,f x))=(ps.toList.map λ(i,x)=>(i,f x)).toArray:=by
 apply adV
 simp
theorem Av {v:SV} (h:(partsOf v).all (λp=>one p||x6 p)=true) (hn:bn v=true):one v=true\/∃ps,v= .agg ps:=by
 by_cases ha:∃ps,v= .agg ps
 ·exact .inr ha
 ·left
  have h1:partsOf v=[v]:=by cases v<;>first|rfl|exact absurd ⟨_,rfl⟩ ha
  rw [h1] at h
  cases v<;>simp_all [one,x6,bn]
theorem VR.bn {v:SV} {v':Value} (h:VR e v v'):bn v=true:=by cases v<;>first|rfl|exact h.elim
theorem VR.yA {j n z len cap size:Nat} {wh:Bool} (h1:cap*z<=size) (h2:len<=cap):VR (kN e j ⟨n,0,size⟩) (.sl j 0 0 z len cap true wh) (.slice (some ⟨n,0,none⟩) len cap):=by
 right
 refine ⟨⟨n,0,size⟩,cap,0,di,rfl,λ_=>?_,aaf _,λ_=>rfl,h2,λ_=>?_⟩
 ·simp
 ·simpa using h1
abbrev Od (P:Program) (B:cP) (e:Env) (w:World) (j:Nat) (r:jr) (s:Sem Value):Prop:=cz B e j r ((do pure (.value (<-s)):Sem Next).run P w)
variable {j:Nat} {t:List (Option SV)} {t':List Value} {d:List Deferred} {r:jr}
theorem FM {el:TypeId} (R:Rel B e h w) (g:(jx P el).map (λps=>(⟨.ptr j 0 0,h,[.b ps],none,true⟩:jr))=some r) (hj:jO h j r.new.length):Od P B e w j r (Instr.alloc el true (.tuple #[])):=by
 obtain ⟨ps,hz,rfl⟩:=aag.1 g
 obtain ⟨z,JS,Oe⟩:=fD (e:=e) hz
 have hlen:=Oe.length
 refine cz.make (v:=.ptr j 0 0) R hj (ps:=ps) (ys:=z.cells.toList) (el:=el) (by rw [aao (by omega)];exact Oe) (by omega) (v':=.pointer (some ⟨w.heap.size,0,none⟩)) ?_ ⟨_,di,rfl⟩ rfl rfl rfl
 simp [Instr.alloc,fy JS,newVar,newRow,newObj,Sem.run]
theorem PJ {el:TypeId} {x:Operand} (hl:TR e t t') (R:Rel B e h w) (g:(ev t x).map (λv=>(⟨.ptr j 0 0,h,[.b (partsOf v)],none,(partsOf v).all λp=>one p||x6 p⟩:jr))=some r) (hp:r.p=true) (hj:jO h j r.new.length):Od P B e w j r (Instr.box el (Act.eval ⟨⟨t'⟩,d⟩ x)):=by
 obtain ⟨v,hx,rfl⟩:=aag.1 g
 have hv:=aK (d:=d) hl hx
 have hps:=hv.parts (Av hp hv.bn)
 have hlen:=hps.length
 refine cz.make (v:=.ptr j 0 0) R hj (ps:=partsOf v) (ys:=(Act.eval ⟨⟨t'⟩,d⟩ x).cells.toList) (el:=el) (by rw [aao (by omega)];exact hps) (by omega) (v':=.pointer (some ⟨w.heap.size,0,none⟩)) ?_ ⟨_,di,rfl⟩ rfl rfl rfl
 simp [Instr.box,newVar,newRow,newObj,Sem.run]
theorem u7 {ty:TypeId} {len:Nat} {ps:Array (Nat×Operand)} {vs:List SV} (hl:TR e t t') (R:Rel B e h w) (hvs:rF t (ps.toList.map (·.2))=some vs) (g:(jz P ty len ((ps.toList.map (·.1)).zip vs)).map (λq=>(⟨.sl j 0 0 q.2.1 len len true true,h,[.b q.1],none,q.2.2⟩:jr))=some r) (hp:r.p=true) (hj:jO h j r.new.length):
  Od P B e w j r (Instr.buildSlice ty len (ps.map λ(i,x)=>(i,Act.eval ⟨⟨t'⟩,d⟩ x))):=by
 obtain ⟨⟨ps',z,q⟩,hb,rfl⟩:=aag.1 g
 simp only at hp;subst hp
 obtain ⟨el,ys,hr,nt,hlen,hz⟩:=oS (w:=w) hb (mo (d:=d) hl ps.toList vs hvs)
 have iI:=nt.length
 rw [map_toArray]
 exact cz.make R hj (ps:=ps') (ys:=ys) (el:=el) (by rw [aao (by omega)];exact nt) (by omega) hr (VR.yA (Nat.le_of_eq hlen.symm) (aaf _)) rfl rfl rfl
theorem wT {ty:TypeId} {l c:Operand} {a b:SV} {wh:Bool} (hl:TR e t t') (R:Rel B e h w) (ha:ev t l=some a) (hb:ev t c=some b) (g:(kH P ty a b).map (λq=>(⟨.sl j 0 0 q.2.1 q.2.2.1 q.2.2.2.1 true wh,h,[.b q.1],none,q.2.2.2.2⟩:jr))=some r) (hp:r.p=true) (hj:jO h j r.new.length):
  Od P B e w j r (Instr.makeSlice ty (Act.eval ⟨⟨t'⟩,d⟩ l) (Act.eval ⟨⟨t'⟩,d⟩ c)):=by
 obtain ⟨⟨ps',z,n,m,q⟩,hm,rfl⟩:=aag.1 g
 simp only at hp;subst hp
 obtain ⟨el,ys,hr,nt,hlen,hz,hnm⟩:=qi (w:=w) hm (aK (d:=d) hl ha) (aK (d:=d) hl hb)
 have iI:=nt.length
 exact cz.make R hj (ps:=ps') (ys:=ys) (el:=el) (by rw [aao (by omega)];exact nt) (by omega) hr (VR.yA (Nat.le_of_eq hlen.symm) hnm) rfl rfl rfl
theorem yB {x:Operand} (hl:TR e t t') (R:Rel B e h w) (g:(match ev t x with
  |some (.ptr b o i)=>some (.of h (.ptr b o i,true))
  |some (.oF k xs i)=>some (.of h (.oF k xs i,true))
  |some (.lX f z l g e o i)=>some (.of h (.lX f z l g e o i,true))
  |some (.dm b z e o i)=>some (.of h (.dm b z e o i,true))
  |some (.dU g i)=>some (.of h (.dU g i,true))
  |some (.fn (.func f) a b)=>some (.of h (.fn (.func f) a b,true))
  |_=>none)=some r):cz B e j r ((match Act.eval ⟨⟨t'⟩,d⟩ x with
  | .pointer none| .nilIface| .nilFunc=>runtimePanic .nilDeref
  | .func (.method name) first captured=>
   match (first[0]? :Option Value) with
   |some .nilIface=>runtimePanic .nilDeref
   |some (.iface t w)=>do
    if (<-nilAhead ((<-program).types.size+Made.depth) t w name) != some false then
     unsupported (.noEntry "op/nilCheck.the method's receiver behind this interface value is a nil pointer, or cannot be seen to be none, and the arguments act or may panic (ledger 612)")
    pure (.value (.func (.method name) first captured))
   |_=>pure (.value (.func (.method name) first captured))
  |x=>pure (.value x):Sem Next).run P w):=by
 split at g
 ·rename_i hx
  cases g
  obtain ⟨p,hp,q⟩:=aK (d:=d) hl hx
  rw [q]
  exact cz.nL R ⟨p,hp,rfl⟩
 ·rename_i hx
  cases g
  obtain ⟨n,o',c,tt,fr,q,h1,h2⟩:=aK (d:=d) hl hx
  rw [q]
  exact cz.nL R ⟨n,o',c,tt,fr,rfl,h1,h2⟩
 ·rename_i hx
  cases g
  obtain ⟨n,o',c,tt,fr,q,h1,h2,h3⟩:=aK (d:=d) hl hx
  rw [q]
  exact cz.nL R ⟨n,o',c,tt,fr,rfl,h1,h2,h3⟩
 ·rename_i hx
  cases g
  obtain ⟨p,hp,q⟩:=aK (d:=d) hl hx
  rw [q]
  exact cz.nL R ⟨p,hp,rfl⟩
 ·rename_i gi ii hx
  cases g
  have q:=aK (d:=d) hl hx
  rw [VR] at q
  rw [q]
  exact cz.nL R (by rw [VR])
 ·rename_i hx
  cases g
  obtain ⟨ys,us,h1,h2,q⟩:=aK (d:=d) hl hx
  rw [q]
  exact cz.nL R ⟨ys,us,h1,h2,rfl⟩
 ·cases g
theorem FN {op:BinOp} {T:TypeId} {x y:Operand} (hl:TR e t t') (R:Rel B e h w) (g:(match ev t x,ev t y with
  |some (.int k a),some (.int k' b)=>(ya op k a k' b).map (.of h)
  |some a,some b=>(Z3 P op T x y a b).map (.of h)
  |_,_=>none)=some r) (hp:r.p=true):Od P B e w j r (do eqGuard op T x y (Act.eval ⟨⟨t'⟩,d⟩ x) (Act.eval ⟨⟨t'⟩,d⟩ y);binOp op T (Act.eval ⟨⟨t'⟩,d⟩ x) (Act.eval ⟨⟨t'⟩,d⟩ y)):=by
 split at g
 ·rename_i k1 a k2 b hx hy
  obtain ⟨⟨v,q⟩,hb,rfl⟩:=aag.1 g
  simp only [jr.of] at hp;subst hp
  have h1:Act.eval ⟨⟨t'⟩,d⟩ x= .int k1 a:=aK (d:=d) hl hx
  have h2:Act.eval ⟨⟨t'⟩,d⟩ y= .int k2 b:=aK (d:=d) hl hy
  obtain ⟨v',hr,hv⟩:=Al (P:=P) (e:=e) hb T x y w
  rw [h1,h2]
  exact cz.value R hr hv
 ·rename_i a b hne hx hy
  obtain ⟨⟨v,q⟩,hb,rfl⟩:=aag.1 g
  simp only [jr.of] at hp;subst hp
  obtain ⟨v',hr,hv⟩:=Dn (P:=P) (w:=w) hb (aK (d:=d) hl hx) (aK (d:=d) hl hy)
  exact cz.value R hr hv
 ·cases g
theorem Rel.fix (R:Rel B e h w) {b:Nat} {q:Pl} {w':World} {c:Array Value} {t:TypeId} {fr:Nat×Nat} (hB:B.e.r b=none) (hq:e.r b=some q)
  (hno:dA b (h.set b .gap)=true) (hos:w'.os=w.os) (FH:w'.tape=w.tape) (hout:w'.output=w.output) (hsize:w.heap.size<=w'.heap.size)
  (hsame:∀n,n<w.heap.size->n≠q.n->w'.heap[n]? =w.heap[n]?) (hcell:w'.heap[q.n]? =some (.cells c t fr)):
  Rel B {e with r:=λj=>if j=b then none else e.r j,z:=λm=>if m=q.n then some (c,t,fr) else e.z m} (h.set b .gap) w':=by
 have hlt:=R.dom b q hq
 have PK:e.z q.n=none:=R.sep b q hq
 have hnew:B.w.heap.size<=q.n:=by
  rcases R.news b q hq with g|g
  ·rw [hB] at g;cases g
  ·exact g
 have hnu:∀(i:Nat) (qs:List SV),(h.set b .gap)[i]? =some (.b qs)->c6 b qs=false:=λi qs hi=>by
  have:=(aah.1 hno) (.b qs) (aaG hi)
  simpa using this
 have hnv:∀{i:Nat} (L:Lp),(h.set b .gap)[i]? =some (.g (some L))->∀v,some v∈L.t->uses b v=false:=λ{i} L hi v hv=>by
  have:=(aah.1 hno) (.g (some L)) (aaG hi)
  have:=(aah.1 this) (some v) hv
  simpa [hJ] using this
 generalize he':({e with r:=λj=>if j=b then none else e.r j,z:=λm=>if m=q.n then some (c,t,fr) else e.z m}:Env)=e'
 have kr:∀j,e'.r j=if j=b then none else e.r j:=λj=>by rw [<-he']
 have kz:∀m,e'.z m=if m=q.n then some (c,t,fr) else e.z m:=λm=>by rw [<-he']
 have kn:e'.n0=e.n0:=by rw [<-he']
 have km:e'.m=e.m:=by rw [<-he']
 have ky:e'.y=e.y:=by rw [<-he']
 have hr:∀j p,j≠b->e.r j=some p->e'.r j=some p:=λj p hj hp=>by rw [kr,aaC hj];exact hp
 have hr':∀j p,e'.r j=some p->j≠b/\e.r j=some p:=λj p hp=>by
  rw [kr] at hp
  split at hp
  ·cases hp
  ·rename_i hj;exact ⟨hj,hp⟩
 have hz:∀n o,e.z n=some o->e'.z n=some o:=λn o hn=>by
  rw [kz,aaC (λx=>by rw [x,PK] at hn;cases hn)];exact hn
 have BP:∀j p,B.e.r j=some p->j≠b:=λj p hp x=>by rw [x,hB] at hp;cases hp
 have hne:∀(i:Nat) (p:Pl),i≠b->e.r i=some p->p.n≠q.n:=λi p hi hp x=>hi (R.inj i b p q hp hq x)
 exact {
  os:=hos.trans R.os,tape:=FH.trans R.tape,output:=hout.trans R.output
  size:=abi R.size hsize
  inj:=λi j p p' hi hj=>R.inj i j p p' (hr' i p hi).2 (hr' j p' hj).2
  dom:=λi p hi=>by simpa using R.dom i p (hr' i p hi).2
  sep:=λi p hi=>by
   obtain ⟨h1,h2⟩:=hr' i p hi
   rw [kz,aaC (hne i p h1 h2)];exact R.sep i p h2
  eU:=λn cc tt ff hn=>by
   rw [kz] at hn
   split at hn
   ·rename_i x;cases hn;rw [x];exact hcell
   ·rename_i x;rw [hsame n (R.JQ hn) x];exact R.eU n cc tt ff hn
  bp:=λn x hn=>by
   rw [kz] at hn
   split at hn
   ·rename_i y;right;omega
   ·exact R.bp n x hn
  dU:=λg k xs hg=>(R.dU g k xs hg).imp λc ⟨t,fr,h1,h2⟩=>⟨t,fr,hz _ _ h1,h2⟩
  news:=λi p hi=>R.news i p (hr' i p hi).2
  bA:=λi p hi=>hr i p (BP i p hi) (R.bA i p hi)
  bM:=λn x hn=>hz n x (R.bM n x hn)
  n0:=by rw [kn];exact R.n0
  cI:=R.cI
  ew:=λi qs hi=>by
   have rY:=hi
   by_cases jt:b=i
   ·subst jt;rw [aay hlt] at hi;cases hi
   ·rw [aau jt] at hi
    rcases R.ew i qs hi with ⟨g1,g2⟩|⟨p,o,g1,g2,c',t',rfl,g3,g4,g5⟩
    ·exact .inl ⟨g1,by rw [kr,aaC (Ne.symm jt)];exact g2⟩
    ·refine .inr ⟨p,_,hr i p (Ne.symm jt) g1,by rw [hsame p.n (R.lt g1) (hne i p (Ne.symm jt) g1)];exact g2,c',t',rfl,g3,g4,?_⟩
     exact PR.mono' (e:=e) (e':=e') hz (by rw [kn];exact aaf _) qs _ (λj p hj hp=>hr j p (λx=>by subst x;rw [hnu i qs rY] at hj;cases hj) hp) g5
  gap:=λi g hi=>by
   by_cases jt:b=i
   ·subst jt
    rw [aay hlt] at hi
    cases hi
    exact ⟨by rw [kr,aaM rfl],trivial⟩
   ·have rY:=hi
    rw [aau jt] at hi
    refine ⟨by rw [kr,aaC (Ne.symm jt)];exact (R.gap i g hi).1,(R.gap i g hi).2.keep (λn o hn=>?_) (by rw [ky]) λL hL v v' hm hv=>VR.mono' (e:=e) (e':=e') hz (by rw [kn];exact aaf _) v v' (λj p hj hp=>hr j p (λx=>by subst x;subst hL;rw [hnv L rY v hm] at hj;cases hj) hp) hv⟩
    rw [hsame n (aav.1 hn).1 λx=>by
     subst x
     obtain ⟨c',t',h1,_⟩:=R.eA hq
     rw [h1] at hn;cases hn]
    exact hn
  yi:=by rw [ky];exact R.yi
  yb:=by rw [ky];exact R.yb
  old:=λn hn hno nI=>by
   rw [hsame n (by have:=R.size;omega) (by omega)]
   exact R.old n hn hno nI
  win:=λi p hi=>by
   obtain ⟨o,o',ho,ho',JR⟩:=R.win i p hi
   exact ⟨o,o',ho,by rw [hsame p.n (R.lt (R.bA i p hi)) (hne i p (BP i p hi) (R.bA i p hi))];exact ho',JR⟩
  kr:=R.kr
  fO:=by simpa using R.fO
  fc:=λr hr=>by
   rw [km] at hr
   have:=R.fc r hr
   rw [hsame r (aav.1 this.1).1 λx=>by
    subst x
    obtain ⟨c',t',h1,_⟩:=R.eA hq
    have h2:=this.1
    rw [h1] at h2;cases h2]
   exact this
  gJ:=by rw [km];exact R.gJ}
theorem Dw {k:Nat} {dst:TypeId} {x:Operand} (hk:∀i p,B.e.r i=some p->i<k) (hl:TR e t t') (R:Rel B e h w) (g:Aj P k h dst (ev t x)=some r) (hp:r.p=true):Od P B e w j r (convert dst dst (Act.eval ⟨⟨t'⟩,d⟩ x)):=by
 unfold Aj at g
 split at g
 case h_2=>cases g
 rename_i b n m hx
 split at g
 case h_2=>cases g
 rename_i el q xs hd hb
 split at g
 case h_2=>cases g
 rename_i hu hc
 cases g
 simp only [aac] at hc
 obtain ⟨⟨⟨BP,hm⟩,Dh⟩,hno⟩:=hc
 have BP:=aaP BP
 have hm:=aaA hm
 have Dh:=aaA Dh
 subst hm Dh
 simp only [aab] at hp
 have hB:B.e.r b=none:=by
  cases hq:B.e.r b with
  |none=>rfl
  |some p=>have:=hk b p hq;omega
 have hv:=aK (d:=d) hl hx
 rcases hv with ⟨h0,_⟩|⟨p,cap',a,q1,q2,q3,q4,q5,q6,q7⟩
 ·cases h0
 have q5:=q5 rfl
 subst q5
 have q3:=q3 (by omega)
 have q7:=q7 (by omega)
 rcases R.ew b _ hb with ⟨g1,_⟩|⟨p',o,g1,g2,c,t0,rfl,g3,g4,g5⟩
 ·simp [av,gS] at g1
 rw [q1] at g1;cases g1
 have hcell:aU .u8 xs=(c.toList.drop p.base).take xs.length:=by
  obtain ⟨zs,z1,z2⟩:=g5
  rw [PR] at z1;subst z1
  rw [aaz, <-hp,bN rfl] at z2
  rw [z2.symm]
  simp [av,gS]
 have hn:av [SV.ints .u8 (n+1) xs]=n+1:=by simp [av,gS]
 rw [hn] at g4
 let w2:=w.freeze ⟨p.n,c.size,none⟩ 1
 have hfz:w2.heap[p.n]? =some (.cells c t0 (c.size,c.size+1)):=by
  have hlt:p.n<w.heap.size:=(aav.1 g2).1
  have hvv:w.heap[p.n]= .cells c t0 (0,0):=(aav.1 g2).2
  simp only [w2,World.freeze]
  rw [aaC (by omega)]
  simp only []
  rw [Array.getElem?_eq_getElem (by simpa using hlt),Array.getElem_modify]
  simp [hvv]
 have cV:∀n,n<w.heap.size->n≠p.n->w2.heap[n]? =w.heap[n]? :=λn hn hne=>by
  simp only [w2,World.freeze]
  rw [aaC (by omega)]
  simp only []
  rw [Array.getElem?_modify,aaC (Ne.symm hne)]
 have hsize:w2.heap.size=w.heap.size:=by
  simp only [w2,World.freeze]
  rw [aaC (by omega)]
  simp only [Array.size_modify]
 have aa3:=R.fix (w':=w2) (c:=c) (t:=t0) (fr:=(c.size,c.size+1)) hB q1 hno (by simp only [w2,World.freeze];rw [aaC (by omega)]) (by simp only [w2,World.freeze];rw [aaC (by omega)]) (by simp only [w2,World.freeze];rw [aaC (by omega)]) (by omega) cV hfz
 have hmk:(markStringish ⟨p.n,a,none⟩).run P w= .ok () w2:=by
  unfold markStringish
  simp only [aaq]
  have:(shape p.n).run P w= .ok (some (t0,c.size)) w:=by
   show Result.ok (w.shape? p.n) w=_
   simp [World.shape?,g2]
  rw [this]
  rfl
 have hrun:(convert dst dst (.slice (some ⟨p.n,a,none⟩) (n+1) (n+1))).run P w= .ok (.slice (some ⟨p.n,a,none⟩) (n+1) (n+1)) w2:=by
  have he:=jV hu
  simp only [convert,aaq,aas hd,aas he,aak,beq_self_eq_true,hmk,aax]
 refine ⟨.value (.slice (some ⟨p.n,a,none⟩) (n+1) (n+1)),w2,{e with r:=λj=>if j=b then none else e.r j,z:=λm=>if m=p.n then some (c,t0,(c.size,c.size+1)) else e.z m},.slice (some ⟨p.n,a,none⟩) (n+1) (n+1),?_,.inl rfl,?_,by show Rel B _ (bI (h.set b .gap) j []) w2;rw [bz];exact aa3,⟨λi p' hi Kk=>?_,λm o hmo=>?_,aaf _,rfl⟩⟩
 ·rw [q2]
  simp only [aaq,hrun,aak,aax]
 ·refine .inr ⟨p.n,a,n+1,c,t0,(c.size,c.size+1),by rw [hp],aaM rfl,λ_=>?_,?_,by omega,by omega⟩
  ·show e.n0<=p.n
   have:=R.n0;have:=R.cI
   rcases R.news b p q1 with x|x
   ·rw [hB] at x;cases x
   ·omega
  ·rw [q3,hcell];simp
 ·show (if i=b then none else e.r i)=some p'
  rw [aaC (λx=>hi (by rw [x]))];exact Kk
 ·show (if m=p.n then _ else e.z m)=some o
  rw [aaC (λx=>by rw [x,R.sep b p q1] at hmo;cases hmo)];exact hmo
theorem Aw {src dst:TypeId} {x:Operand} (hl:TR e t t') (R:Rel B e h w) (g:sJ P h src dst (ev t x)=some r) (hp:r.p=true):Od P B e w j r (convert src dst (Act.eval ⟨⟨t'⟩,d⟩ x)):=by
 unfold sJ at g
 split at g
 ·rename_i xs hx
  split at g
  ·rename_i el hd
   split at g
   ·rename_i he hs1
    split at g
    ·rename_i dd hs
     cases g
     obtain ⟨s,hv,rfl⟩:=aK (d:=d) hl hx
     obtain ⟨v',w',e',hr,Kb,R',hst⟩:=sY (P:=P) (s:=s) R (src:=src) (dst:=dst) (by simp [hs]) hd he
     refine ⟨.value v',w',e',v',?_,.inl rfl,Kb,by show Rel B e' (bI h j []) w';rw [bz];exact R',hst⟩
     rw [hv]
     simp only [aaq,hr,aak,aax]
    ·cases g
   ·cases g
  ·obtain ⟨v,hb,rfl⟩:=aag.1 g
   obtain ⟨v',hr,hv⟩:=qV (P:=P) (w:=w) hb (aK (d:=d) hl hx)
   exact cz.value R hr hv
 ·rename_i k1 n hx
  obtain ⟨v,hb,rfl⟩:=aag.1 g
  obtain ⟨v',hr,hv⟩:=qV (P:=P) (w:=w) hb (aK (d:=d) hl hx)
  exact cz.value R hr hv
 ·rename_i hx
  split at g
  ·rename_i el hs hd
   split at g
   ·rename_i he
    cases g
    have hv:Act.eval ⟨⟨t'⟩,d⟩ x= .slice none 0 0:=aK (d:=d) hl hx
    rw [hv]
    exact cz.value R (run_convert_bytes_nil w src el hs (jV he) 0 0 dst hd) ⟨ByteArray.empty,rfl,rfl⟩
   ·cases g
  ·cases g
 ·rename_i a hns hni hnn hx
  split at g
  ·rename_i el m xs q n hs hd rX uU
   split at g
   ·rename_i he
    cases g
    simp only [jr.of,aC,aac,aab] at hp
    obtain ⟨⟨rfl,hrow,N5⟩,hu⟩:=hp
    have hr:=sX (P:=P) R hs hd he rX uU hrow (λs q=>hns s (by rw [q])) N5 hu (aK (d:=d) hl hx)
    have h2:=cz.value (j:=j) R hr (show VR e (.str xs) _ from ⟨_,rfl,(yz hu).symm⟩)
    have h3:aa (aa true (cj 1 a&&decide (xs.length=m))) (Pr xs)=true:=by rw [hrow,hu,Me N5];rfl
    rw [h3];exact h2
   ·cases g
  ·cases g
 ·cases g
theorem Ax {arr:TypeId} {x:Operand} (hl:TR e t t') (R:Rel B e h w) (g:(match P.underlying arr,ev t x with
  |some (.array (n+1) e),some (.sl b o i 1 len _ _ _)=>match isInt P e with
   |some _=>some (jr.of h (.ptr b o i,decide (n+1<=len)))
   |none=>none
  |some (.array (n+1) e),some (.ro _ k xs)=>match isInt P e with
   |some _=>some (.of h (.oF k xs 0,decide (n+1<=xs.length)))
   |none=>none
  |_,_=>none)=some r) (hp:r.p=true):Od P B e w j r (Instr.arrayAt arr (Act.eval ⟨⟨t'⟩,d⟩ x)):=by
 split at g
 ·rename_i n el b o i len cap ex wh hu hx
  split at g
  ·cases g
   simp only [jr.of,aab] at hp
   rcases aK (d:=d) hl hx with ⟨h0,_⟩|⟨p,cap',a,hp',hv,ha,_,_,hlc,_⟩
   ·omega
   ·have uJ:=ha (by omega)
    have hn:¬len<n+1:=by omega
    rw [hv]
    have hr:(Instr.arrayAt arr (.slice (some ⟨p.n,a,none⟩) len cap')).run P w= .ok (.pointer (some ⟨p.n,a,none⟩)) w:=by
     simp [Instr.arrayAt,aas hu,hn]
    have:=cz.value (j:=j) (v:=.ptr b o i) R hr ⟨p,hp',by rw [uJ,ad3]⟩
    have hd:decide (n+1<=len)=true:=Me hp
    rw [hd];exact this
  ·cases g
 ·rename_i n el f k xs hu hx
  split at g
  ·cases g
   simp only [jr.of,aab] at hp
   rcases aK (d:=d) hl hx with ⟨h0,_⟩|⟨n',o,cap,c,tt,fr,hv,hz,_,hq,_⟩
   ·subst h0;simp at hp
   ·have hn:¬xs.length<n+1:=by omega
    rw [hv]
    have hr:(Instr.arrayAt arr (.slice (some ⟨n',o,none⟩) xs.length cap)).run P w= .ok (.pointer (some ⟨n',o,none⟩)) w:=by
     simp [Instr.arrayAt,aas hu,hn]
    have:=cz.value (j:=j) (v:=.oF k xs 0) R hr ⟨n',o,c,tt,fr,rfl,hz,hq⟩
    have hd:decide (n+1<=xs.length)=true:=Me hp
    rw [hd];exact this
  ·cases g
 ·cases g
theorem LR.iY (hl:TR e t t') {xs:Array Operand} {vs:List SV} (h:rF t xs.toList=some vs):LR e vs (xs.map (Act.eval ⟨⟨t'⟩,d⟩)).toList:=by
 rw [Array.toList_map];exact qd hl h
theorem gz {c:Call} {b:Builtin} {o:Oper} {args':Array Value} (fT:c.callee= .builtin b) (ha:args'=c.args.map (Act.eval ⟨⟨t'⟩,d⟩)) (ho:o.op= .call c):
  (execOp (Act.eval ⟨⟨t'⟩,d⟩) o)=builtin b c.argTypes o.type (c.args.map λ| .const _=>true|_=>false) args':=by
 unfold execOp
 rw [ho]
 simp only [resolve,fT]
 rw [ha]
 rfl
theorem Dx {G:bH} {ey:Tmp->Bool} {k:Nat} {o:Oper} (g:l6 P G ey k t h j o=some r) (hp:r.p=true) (hc:∀c f,o.op= .call c->c.callee≠.value f) (hj:jO h j r.new.length)
  (hk:∀i p,B.e.r i=some p->i<k) (hl:TR e t t') (R:Rel B e h w):cz B e j r ((execOp (Act.eval ⟨⟨t'⟩,d⟩) o).run P w):=by
 have PL:(∃c,o.op= .call c)\/∀c,o.op≠.call c:=by cases o.op<;>simp
 rcases PL with ⟨c,hop⟩|hnc
 ·-- builtins
  unfold l6 at g
  rw [hop] at g
  simp only at g
  split at g
  ·rename_i f fT;exact absurd fT (hc c f hop)
  ·rename_i fT
   split at g
   ·rename_i ty a Of ha
    obtain ⟨v,hb,rfl⟩:=aag.1 g
    obtain ⟨y,zs,hy,hz,q⟩:=LR.iY (d:=d) hl ha
    rw [LR] at hz;subst hz
    obtain ⟨v',hr,hv⟩:=Ao (P:=P) (w:=w) (ty:=o.type) hb hy
    have h1:c.argTypes= #[ty]:=adV Of
    have h2: #[y]=c.args.map (Act.eval ⟨⟨t'⟩,d⟩):=by apply adV;exact q.symm
    rw [gz fT h2 hop,h1]
    exact cz.value R hr hv
   ·cases g
  ·rename_i fT
   split at g
   ·rename_i ty a Of ha
    obtain ⟨v,hb,rfl⟩:=aag.1 g
    obtain ⟨y,zs,hy,hz,q⟩:=LR.iY (d:=d) hl ha
    rw [LR] at hz;subst hz
    obtain ⟨v',hr,hv⟩:=Ap (P:=P) (w:=w) (ty:=o.type) hb hy
    have h1:c.argTypes= #[ty]:=adV Of
    have h2: #[y]=c.args.map (Act.eval ⟨⟨t'⟩,d⟩):=by apply adV;exact q.symm
    rw [gz fT h2 hop,h1]
    exact cz.value R hr hv
   ·cases g
  ·rename_i fT
   split at g
   ·rename_i kk a vs ha
    obtain ⟨n,hb,rfl⟩:=aag.1 g
    obtain ⟨y,zs,hy,hz,q⟩:=LR.iY (d:=d) hl ha
    rw [VR] at hy;subst hy
    have h2:(⟨.int kk a::zs⟩:Array Value)=c.args.map (Act.eval ⟨⟨t'⟩,d⟩):=by apply adV;exact q.symm
    rw [gz fT h2 hop]
    exact cz.value (s:=Builtin.min_ c.argTypes o.type ⟨.int kk a::zs⟩) R (sR hb hz) rfl
   ·cases g
  ·rename_i fT
   split at g
   ·rename_i ty xt a b Of ha
    obtain ⟨y,zs,hy,hz,q⟩:=LR.iY (d:=d) hl ha
    obtain ⟨y2,zs2,Z9,Oe,q2⟩:=hz
    rw [LR] at Oe;subst Oe q2
    have h1:c.argTypes= #[ty,xt]:=adV Of
    have h2: #[y,y2]=c.args.map (Act.eval ⟨⟨t'⟩,d⟩):=by apply adV;exact q.symm
    rw [gz fT h2 hop,h1]
    exact uZ R g hp hj hk hy Z9
   ·cases g
  ·rename_i fT
   split at g
   ·rename_i ty xt a b Of ha
    obtain ⟨⟨h',v,pp⟩,hb,rfl⟩:=aag.1 g
    simp only at hp;subst hp
    obtain ⟨y,zs,hy,hz,q⟩:=LR.iY (d:=d) hl ha
    obtain ⟨y2,zs2,Z9,Oe,q2⟩:=hz
    rw [LR] at Oe;subst Oe q2
    have h1:c.argTypes= #[ty,xt]:=adV Of
    have h2: #[y,y2]=c.args.map (Act.eval ⟨⟨t'⟩,d⟩):=by apply adV;exact q.symm
    rw [gz fT h2 hop,h1]
    obtain ⟨v',w',hr,hv,R'⟩:=yy (P:=P) (sT:=xt) (ty:=o.type) R hb hy Z9
    refine ⟨.value v',w',e,v',?_,.inl rfl,hv,by rw [bz];exact R',bW.refl _ _⟩
    show ((do pure (.value (<-Builtin.copy_ #[ty,xt] o.type #[y,y2])):Sem Next)).run P w=_
    simp only [aaq,hr,aak,aax]
   ·cases g
  ·cases g
 unfold l6 at g
 unfold execOp
 generalize o.op=op at g hnc ⊢
 cases op<;>simp only at g
 case move x=>
  obtain ⟨v,hx,rfl⟩:=aag.1 g
  exact cz.nL R (aK hl hx)
 case assign x=>
  obtain ⟨v,hx,rfl⟩:=aag.1 g
  exact cz.nL R (aK hl hx)
 case pick c a b=>
  split at g
  ·rename_i PM
   obtain ⟨v,hx,rfl⟩:=aag.1 g
   have hb:Act.eval ⟨⟨t'⟩,d⟩ c= .bool true:=aK (d:=d) hl PM
   have:=cz.nL (P:=P) (j:=j) R (aK (d:=d) hl hx)
   simpa [hb,asBool] using this
  ·rename_i PM
   obtain ⟨v,hx,rfl⟩:=aag.1 g
   have hb:Act.eval ⟨⟨t'⟩,d⟩ c= .bool false:=aK (d:=d) hl PM
   have:=cz.nL (P:=P) (j:=j) R (aK (d:=d) hl hx)
   simpa [hb,asBool] using this
  ·cases g
 case alloc el=>exact FM R g hj
 case box el x=>exact PJ hl R g hp hj
 case build ty ps=>
  split at g
  ·rename_i vs hvs
   obtain ⟨⟨v,q⟩,hb,rfl⟩:=aag.1 g
   simp only [jr.of] at hp;subst hp
   obtain ⟨v',hr,hv⟩:=wM (w:=w) hb (mo (d:=d) hl ps.toList vs hvs)
   exact cz.value (s:=Instr.build ty (ps.map λ(i,x)=>(i,Act.eval ⟨⟨t'⟩,d⟩ x))) R (by rw [map_toArray];exact hr) hv
  ·cases g
 case buildSlice ty len ps=>
  split at g
  ·rename_i vs hvs;exact u7 hl R hvs g hp hj
  ·cases g
 case makeSlice ty l c=>
  split at g
  ·rename_i a b ha hb;exact wT hl R ha hb g hp hj
  ·cases g
 case load ty x=>
  split at g
  ·rename_i a hx
   obtain ⟨⟨v,q⟩,hb,rfl⟩:=aag.1 g
   simp only [jr.of] at hp;subst hp
   obtain ⟨ad,v',ha,hr,hv⟩:=qU (P:=P) R hb (aK (d:=d) hl hx)
   exact cz.value (s:=Instr.loadAt ty (Act.eval ⟨⟨t'⟩,d⟩ x)) R (by rw [ha];simp [Instr.loadAt,Instr.sureAddr,hr]) hv
  ·cases g
 case store ty x y=>
  split at g
  ·rename_i a v hx hy
   obtain ⟨⟨h',q⟩,hb,rfl⟩:=aag.1 g
   simp only at hp;subst hp
   obtain ⟨ad,w',ha,hr,R'⟩:=wI (P:=P) R hb (aK (d:=d) hl hx) (aK (d:=d) hl hy)
   refine ⟨.skip,w',e,undef,?_,.inr ⟨rfl,rfl⟩,VR.empty,by rw [bz];exact R',bW.refl _ _⟩
   show ((do Instr.storeAt ty (Act.eval ⟨⟨t'⟩,d⟩ x) (Act.eval ⟨⟨t'⟩,d⟩ y);pure .skip:Sem Next)).run P w=_
   rw [ha]
   simp [Instr.storeAt,Instr.sureAddr,hr]
  ·cases g
 case nilCheck x=>exact yB hl R g
 case binOp op T x y T'=>exact FN hl R g hp
 case unOp op T x=>
  split at g
  ·rename_i a hx
   obtain ⟨v,hb,rfl⟩:=aag.1 g
   obtain ⟨v',hr,hv⟩:=Dp (P:=P) (w:=w) hb (aK (d:=d) hl hx)
   exact cz.value R hr hv
  ·cases g
 case convert src dst x=>
  split at g
  ·rename_i Kl
   obtain rfl:=aaA Kl
   exact Dw hk hl R g hp
  ·exact Aw hl R g hp
 case sliceToArrayPointer arr x=>exact Ax hl R g hp
 case makeInterface ty x=>
  split at g
  ·cases g
  ·rename_i dd v hni hu hx
   split at g
   ·rename_i ho
    cases g
    have hr:(Instr.makeInterface ty (Act.eval ⟨⟨t'⟩,d⟩ x)).run P w= .ok (.iface ty (Act.eval ⟨⟨t'⟩,d⟩ x)) w:=by
     unfold Instr.makeInterface
     rw [aaq,aas hu,aak]
     cases dd<;>first|exact (hni _ rfl).elim|rfl
    exact cz.value R hr ⟨_,aK (d:=d) hl hx,rfl⟩
   ·cases g
  ·cases g
 case makeFunc fn first captured=>
  split at g
  ·rename_i a b ha hb
   cases g
   exact cz.value R (s:=Instr.makeFunc fn (first.map (Act.eval ⟨⟨t'⟩,d⟩)) (captured.map (Act.eval ⟨⟨t'⟩,d⟩))) rfl ⟨_,_,LR.iY (d:=d) hl ha,LR.iY (d:=d) hl hb,rfl⟩
  ·cases g
 case fieldAddr ty x i=>
  split at g
  ·rename_i a hx
   obtain ⟨v,hb,rfl⟩:=aag.1 g
   obtain ⟨v',hr,hv⟩:=qe (P:=P) (w:=w) hb (aK (d:=d) hl hx)
   exact cz.value R hr hv
  ·cases g
 case field ty x i=>
  split at g
  ·rename_i a hx
   obtain ⟨⟨v,q⟩,hb,rfl⟩:=aag.1 g
   simp only [jr.of] at hp;subst hp
   obtain ⟨v',hr,hv⟩:=wJ (P:=P) (w:=w) hb (aK (d:=d) hl hx)
   exact cz.value R hr hv
  ·cases g
 case indexAddr ty x i=>
  split at g
  ·rename_i a b hx hi
   obtain ⟨⟨v,q⟩,hb,rfl⟩:=aag.1 g
   simp only [jr.of] at hp;subst hp
   obtain ⟨v',hr,hv⟩:=qf (P:=P) (w:=w) hb (aK (d:=d) hl hx) (aK (d:=d) hl hi)
   exact cz.value R hr hv
  ·cases g
 case index ty x i=>
  split at g
  ·rename_i a b hx hi
   obtain ⟨⟨v,q⟩,hb,rfl⟩:=aag.1 g
   simp only [jr.of] at hp;subst hp
   obtain ⟨v',hr,hv⟩:=wK (P:=P) (w:=w) hb (aK (d:=d) hl hx) (aK (d:=d) hl hi)
   exact cz.value R hr hv
  ·cases g
 case slice ty x lo hi mx=>
  split at g
  ·rename_i a l u m hx hlo hhi N8
   split at g
   ·rename_i hz3
    obtain ⟨⟨v,q⟩,hb,rfl⟩:=aag.1 g
    simp only [jr.of] at hp;subst hp
    obtain ⟨v',hr,hv⟩:=wO (P:=P) R hz3 hlo hhi N8 hb (aK (d:=d) hl hx) (iH (d:=d) hl hlo) (iH (d:=d) hl hhi) (iH (d:=d) hl N8)
    exact cz.value R hr hv
   obtain ⟨⟨v,q⟩,hb,rfl⟩:=aag.1 g
   simp only [jr.of] at hp;subst hp
   obtain ⟨v',hr,hv⟩:=kP (P:=P) R hb (aK (d:=d) hl hx) (iH (d:=d) hl hlo) (iH (d:=d) hl hhi) (iH (d:=d) hl N8)
   exact cz.value R hr hv
  ·cases g
 case typeAssert x xT asserted ok=>
  split at g
  ·rename_i a hx
   obtain ⟨v,hb,rfl⟩:=aag.1 g
   obtain ⟨v',hr,hv⟩:=uV (P:=P) (w:=w) (xT:=xT) hb (aK (d:=d) hl hx)
   exact cz.value R hr hv
  ·cases g
 case extract x i=>
  split at g
  ·rename_i vs hx
   obtain ⟨v,hb,rfl⟩:=aag.1 g
   obtain ⟨ys,hys,q⟩:=aK (d:=d) hl hx
   obtain ⟨y,hy,hv⟩:=hys.get hb
   exact cz.value (s:=Instr.extract (Act.eval ⟨⟨t'⟩,d⟩ x) i) (v':=y) R (by rw [q];simp [Instr.extract,hy]) hv
  ·cases g
 case call c=>exact absurd rfl (hnc c)
 all_goals cases g
end
end Go.Sy
namespace Go.Sy
open Go
section
variable {P:Program}
theorem n5 {G:bH} (hG:mj P G) {ey:Tmp->Bool} {k j n:Nat} {ro:Option Nat} {t:List (Option SV)} {t':List Value} {h:List Blk} {r:jr} {o:Oper} (g:l6 P G ey k t h j o=some r) (hp:r.p=true)
  {B:cP} {e:Env} {w:World} {d:List Deferred} (hj:jO h j r.new.length) (hk:∀i p,B.e.r i=some p->i<k) (hl:TR e t t') (R:Rel B e h w) {next:Act->World->Prop} {Q:Exit->Act->World->Prop}
  (hn:∀e' v' w',VR e' r.v v'->Rel B e' (bI r.h j r.new) w'->bW e e' r.kill->next (Act.put ⟨⟨t'⟩,d⟩ o.dst v') w'):o.wpIn (wF ro) n P ⟨⟨t'⟩,d⟩ w next Q:=by
 have s3:∀c,o.op≠.defer c:=λc hc=>by unfold l6 at g;rw [hc] at g;cases g
 refine ⟨λ_ _=>trivial,?_⟩
 rw [Oper.semAt_eq _ _ _ s3]
 by_cases hc:∃c f,o.op= .call c/\c.callee= .value f
 ·obtain ⟨c,f,hc,fT⟩:=hc
  unfold l6 at g
  rw [hc] at g
  simp only [fT] at g
  split at g
  ·rename_i f' first lO vs hf hvs
   split at g
   case h_2=>cases g
   rename_i hyo
   obtain ⟨⟨v,h',new,q⟩,hg,rfl⟩:=aag.1 g
   simp only at hp;subst hp
   obtain ⟨ys,us,h1,h2,hfv⟩:=aK (d:=d) hl hf
   have hargs:=(h1.append (qd (d:=d) hl hvs)).append h2
   have hk:=hG f' _ h j v h' new hg B e w _ hargs R hj
   cases f' with
   |func f'=>
    have FO:(execOp (Act.eval ⟨⟨t'⟩,d⟩) o).run P w=(callFunc f' ⟨ys++c.args.toList.map (Act.eval ⟨⟨t'⟩,d⟩)++us⟩).run P w:=by
     unfold execOp
     rw [hc]
     simp only [resolve,fT,hfv,Deferred.ofValue,invoke,aaq,aax,aak]
     congr 2
     apply adV
     simp
    rw [FO]
    rcases hk with ⟨v',w',hr,e',hv,R',hst⟩|⟨hr,PN⟩
    ·rw [hr]
     exact hn e' v' w' hv R' hst
    ·rw [hr]
     refine ⟨λh=>by simp [wF,Fence.wide] at h,n4.2 ?_⟩
     intro cs
     obtain ⟨x,w',fr,⟨v',rfl,e',hv,R',hst⟩,rest⟩:=PN cs
     exact ⟨.returned v',w',fr,hn e' v' w' hv R' hst,rest⟩
   |yield l=>
    obtain ⟨fn,tmps,sw,body,hy,PO⟩:=hk
    have gj:us=[]:=by
     simp only [yOK,List.isEmpty_iff] at hyo
     subst hyo;exact h2
    subst gj
    rw [aaz] at hy
    have FO:(execOp (Act.eval ⟨⟨t'⟩,d⟩) o).run P w=(Instr.yield l ⟨ys++c.args.toList.map (Act.eval ⟨⟨t'⟩,d⟩)⟩).run P w:=by
     unfold execOp
     rw [hc]
     simp only [resolve,fT,hfv,Deferred.ofValue,invoke,aaq,aax,aak]
     congr 2
     apply adV
     simp
    rw [FO,hy,Oper.uponIn_round]
    exact ⟨λh=>by simp [wF,Fence.wide] at h,RoundIn.mono (PO ro _) λx w' ⟨v',q,e',hv,R',hst⟩=>by subst q;exact hn e' v' w' hv R' hst⟩
   |_=>exact hk.elim
  ·cases g
 ·obtain ⟨nx,w',e',v',hr,JV,hv,R',hst⟩:=Dx (d:=d) g hp (λc f q q'=>hc ⟨c,f,q,q'⟩) hj hk hl R
  rw [hr]
  rcases JV with rfl|⟨rfl,rfl⟩
  ·exact hn e' v' w' hv R' hst
  ·exact hn e' undef w' hv R' hst
theorem VR.bool' {e:Env} {x:SV} {b:Bool} (h:VR e x (.bool b)):x= .bool b\/x= .nl (.bool b):=by
 cases x with
 |bool c=>rw [VR] at h;cases h;exact .inl rfl
 |nl v=>rw [VR] at h;subst h;exact .inr rfl
 |int=>cases h
 |str=>obtain ⟨_,q,_⟩:=h;cases q
 |ints=>exact h.elim
 |ptr=>obtain ⟨_,_,q⟩:=h;cases q
 |sl=>rcases h with ⟨_,_,_,q⟩|⟨_,_,_,_,q,_⟩<;>cases q
 |ro=>rcases h with ⟨_,_,_,q,_⟩|⟨_,_,_,_,_,_,q,_⟩<;>cases q
 |gf=>rcases h with ⟨_,_,_,q,_⟩|⟨_,_,_,_,_,_,q,_⟩<;>cases q
 |aJ=>rcases h with ⟨_,_,_,q,_⟩|⟨_,_,_,_,_,_,q,_⟩<;>cases q
 |oF=>obtain ⟨_,_,_,_,_,q,_⟩:=h;cases q
 |rE=>obtain ⟨_,_,_,_,_,q,_⟩:=h;cases q
 |lX=>obtain ⟨_,_,_,_,_,q,_⟩:=h;cases q
 |agg=>obtain ⟨_,_,q⟩:=h;cases q
 |bC=>obtain ⟨_,_,q⟩:=h;cases q
 |iface=>obtain ⟨_,_,q⟩:=h;cases q
 |fn=>obtain ⟨_,_,_,_,q⟩:=h;cases q
 |rows=>exact h.elim
 |bK=>rcases h with ⟨_,_,_,q⟩|⟨_,_,_,_,q,_⟩<;>cases q
 |dm=>obtain ⟨_,_,q⟩:=h;cases q
 |qQ=>obtain ⟨_,_,q⟩:=h;cases q
 |dU=>rw [VR] at h;cases h
theorem eI {e:Env} {t:List (Option SV)} {t':List Value} (h:TR e t t') {ops:Array Oper} {o:Oper} {b:Bool} (g:eV ops t o=some b):Region.wanted o (yielded ops ⟨t'⟩)=b:=by
 unfold eV at g
 unfold Region.wanted
 split at g
 ·rename_i hg;rw [hg];cases g;rfl
 ·rename_i j want hg
  rw [hg]
  simp only []
  unfold yielded
  have hj:ops[j]? =ops.toList[j]? :=by simp
  rw [hj]
  split at g
  ·rename_i hd;rw [hd];cases g;rfl
  ·rename_i i hd
   rw [hd]
   simp only [Option.bind_some]
   have e2:(⟨t'⟩:Array Value)[i]? =t'[i]? :=by simp
   rw [e2]
   split at g
   ·rename_i hn
    cases g
    have:t'[i]? =none:=by rw [List.getElem?_eq_none_iff] at hn ⊢;rw [<-h.1];exact hn
    rw [this]
    rfl
   ·cases g
   ·rename_i x hx
    cases g
    obtain ⟨v',Kb,hv⟩:=h.get hx
    rw [VR] at hv;subst hv
    rw [Kb]
    cases x<;>cases want<;>rfl
   ·cases g
   ·rename_i v hnb nI hx
    cases g
    obtain ⟨v',Kb,hv⟩:=h.get hx
    rw [Kb]
    by_cases hb:∃b,v'= .bool b
    ·obtain ⟨b,rfl⟩:=hb
     rcases hv.bool' with q|q
     ·exact absurd q (hnb b)
     ·exact absurd q (nI _)
    ·have n1:(match some v' with|some (.bool b)=>some b|_=>none:Option Bool)=none:=by
      cases v'<;>first|rfl|exact absurd ⟨_,rfl⟩ hb
     exact (adX (λz:Option Bool=>z==some want) n1).trans rfl
theorem TR.put {e:Env} {t:List (Option SV)} {t':List Value} {d:List Deferred} {o:Option Tmp} {v:SV} {v':Value} (h:TR e t t') (g:VR e v v'):∃t'',Act.put ⟨⟨t'⟩,d⟩ o v'=⟨⟨t''⟩,d⟩/\TR e (bw t o v) t'':=by
 cases o with
 |none=>exact ⟨t',rfl,h⟩
 |some i=>exact ⟨t'.set i v',by simp [Act.put],h.set g i⟩
theorem yC {sym:Tmp->Option Bool} {d:Option Tmp} {v:SV} (h:(ei sym d v).2=true):(ei sym d v).1=v:=by
 unfold ei at h ⊢
 split
 ·rfl
 ·split
  ·rfl
  ·rename_i b hb
   simp only [hb] at h
   split
   ·cases b<;>simp at h<;>rw [h]
   ·rfl
theorem kS (h:List Blk):∀(new:List Blk) (j:Nat),(bV h j new).length=h.length:=by
 intro new
 induction new generalizing h with
 |nil=>intro j;rfl
 |cons b bs ih=>intro j;rw [bV,ih];simp
theorem fF:∀(new:List Blk) (h:List Blk) (j i:Nat),(bV h j new)[i]? =if j<=i/\i<j+new.length/\i<h.length then new[i-j]? else h[i]?
 | [],h,j,i=>by simp only [bV,List.length_nil,Nat.add_zero];rw [aaC (by omega)]
 |b::bs,h,j,i=>by
  rw [bV,fF bs (h.set j b) (j+1) i]
  simp only [List.length_set,adY]
  by_cases h1:j+1<=i/\i<j+1+bs.length/\i<h.length
  ·rw [aaM h1,aaM (by omega),show i-j=(i-(j+1))+1 by omega,acD]
  ·rw [aaC h1]
   by_cases h2:i=j
   ·subst h2
    by_cases h3:i<h.length
    ·rw [aay h3,aaM (by omega),Nat.sub_self];rfl
    ·rw [aaC (by omega),aaJ (by simp;omega),aaJ (by omega)]
   ·rw [aau (Ne.symm h2),aaC (by omega)]
theorem FP {G:bH} {sym:Tmp->Option Bool} {ey:Tmp->Bool} {k:Nat} {ops:Array Oper} {o:Oper} {s s':St} (e:yf P G sym ey k ops o s=some s') (h:s'.ob=true):s.ob=true:=by
 unfold yf at e
 split at e
 ·split at e
  ·cases e;simp only [aC] at h;exact h.1.1
  ·cases e
 ·cases e;exact h
 ·cases e
theorem j0 {G:bH} {sym:Tmp->Option Bool} {ey:Tmp->Bool} {k:Nat} {ops:Array Oper}:∀(is:List Nat) (s s':St),b7 P G sym ey k ops is s=some s'->s'.ob=true->s.ob=true
 | [],s,s',e,h=>by simp only [b7,No] at e;subst e;exact h
 |i::is,s,s',e,h=>by
  simp only [b7] at e
  split at e
  ·exact j0 is s s' e h
  ·split at e
   ·rename_i s1 h1;exact FP h1 (j0 is s1 s' e h)
   ·cases e
theorem s4 {G:bH} (hG:mj P G) {sym:Tmp->Option Bool} {ey:Tmp->Bool} {k n:Nat} {ro:Option Nat} {ops:Array Oper} {o:Oper} {i:Nat} (hi:ops[i]? =some o) {s s':St} (g:yf P G sym ey k ops o s=some s') (cA:s'.ob=true)
  {B:cP} {e:Env} {w:World} {t':List Value} {d:List Deferred} {Q:Exit->Act->World->Prop} {K:Act->World->Prop} (hk:∀i p,B.e.r i=some p->i<k) (hl:TR e s.t t') (R:Rel B e s.h w)
  (hK:∀e' w' t'',e'.m=e.m->TR e' s'.t t''->Rel B e' s'.h w'->K ⟨⟨t''⟩,d⟩ w'):wpOpIn (wF ro) n P ops Q i K ⟨⟨t'⟩,d⟩ w:=by
 unfold yf at g
 unfold wpOpIn
 rw [hi]
 simp only []
 split at g
 ·rename_i hw
  rw [aaM (eI hl hw)]
  split at g
  ·rename_i r hop
   cases g
   simp only [aC] at cA
   refine n5 hG hop cA.1.2 (.inl rfl) hk hl R λe' v' w' hv R' hst=>?_
   rw [yC cA.2] at hK
   obtain ⟨t'',q,hl'⟩:=TR.put (d:=d) (o:=o.dst) (hst.slots hl) hv
   rw [q]
   exact hK e' w' t'' hst.m hl' R'
  ·cases g
 ·rename_i hw
  cases g
  rw [aaC (by rw [eI hl hw];simp)]
  obtain ⟨t'',q,hl'⟩:=TR.put (d:=d) (o:=o.dst) hl (VR.empty (e:=e))
  rw [q]
  exact ⟨λ_ _=>trivial,hK e w t'' rfl hl' R⟩
 ·cases g
end
end Go.Sy
namespace Go.Sy
open Go
def Dy (h h2:List Blk):Prop:=∀(i:Nat) (ps:List SV),h[i]? =some (.b ps)->h2[i]? =some (.b ps)
def j4 (pf:FuncId->Nat) (G:bH):Prop:=
 (∀f,pf f=0->∀vs h j v h' new p,G (.func f) vs h j=some (v,h',new,p)->h'=h/\∀h2,G (.func f) vs h2 j=some (v,h2,new,p))/\
 (∀f,pf f=1->∀vs h j v h' new p,G (.func f) vs h j=some (v,h',new,p)->h'=h/\∀h2,Dy h h2->G (.func f) vs h2 j=some (v,h2,new,p))
section
variable {P:Program}
theorem iJ {t t':List (Option SV)}:∀{xs:List Operand},(∀x∈xs,ev t x=ev t' x)->rF t xs=rF t' xs
 | [],_=>rfl
 |x::xs,h=>by simp only [rF,h x (by simp),iJ (xs:=xs) λy hy=>h y (by simp [hy])]
theorem qk {t t':List (Option SV)} {y:Option Operand} (hy:∀z,y=some z->ev t z=ev t' z):EU t y=EU t' y:=by
 cases y with
 |none=>rfl
 |some z=>simp only [EU,hy z rfl]
theorem iK {G:bH} {ey:Tmp->Bool} {k j:Nat} {t t':List (Option SV)} {h:List Blk} (o:Oper) (e:∀x∈o.op.operands,ev t x=ev t' x):l6 P G ey k t h j o=l6 P G ey k t' h j o:=by
 unfold l6
 generalize o.op=op at e ⊢
 cases op<;>simp only [Op.operands] at e<;>simp only
 case build ty ps=>rw [iJ (t:=t) (t':=t') (xs:=ps.toList.map (·.2)) λx hx=>e x (by simpa using hx)]
 case buildSlice ty len ps=>rw [iJ (t:=t) (t':=t') (xs:=ps.toList.map (·.2)) λx hx=>e x (by simpa using hx)]
 case makeSlice ty l c=>rw [e l (by simp),e c (by simp)]
 case makeFunc fn a b=>rw [iJ (t:=t) (t':=t') (xs:=a.toList) λx hx=>e x (by simp [Array.mem_toList_iff.1 hx]),iJ (t:=t) (t':=t') (xs:=b.toList) λx hx=>e x (by simp [Array.mem_toList_iff.1 hx])]
 case slice ty x lo hi mx=>
  rw [e x (by simp),qk (y:=lo) (λz hz=>e z (by subst hz;simp)),qk (y:=hi) (λz hz=>e z (by subst hz;simp)),qk (y:=mx) (λz hz=>e z (by subst hz;simp))]
 case call c=>
  have h1:=iJ (t:=t) (t':=t') (xs:=c.args.toList) λx hx=>e x (by simp [Call.operands,Array.mem_toList_iff.1 hx])
  have h2:∀f,c.callee= .value f->ev t f=ev t' f:=λf hf=>e f (by simp [Call.operands,hf])
  rw [h1]
  cases fT:c.callee with
  |value f=>simp only;rw [h2 f fT]
  |invoke r m=>rfl
  |builtin b=>cases b<;>rfl
 case pick c a b=>rw [e c (by simp),e a (by simp),e b (by simp)]
 case store ty a v=>rw [e a (by simp),e v (by simp)]
 case binOp op T x y T'=>rw [e x (by simp),e y (by simp)]
 case indexAddr T x i=>rw [e x (by simp),e i (by simp)]
 case index T x i=>rw [e x (by simp),e i (by simp)]
 all_goals first
  |rfl
  |(rw [e _ (by simp)])
theorem PS {t:List (Option SV)} {d:Option Tmp} {v:SV} {x:Operand} (h:∀i,d=some i->x≠.tmp i):ev (bw t d v) x=ev t x:=by
 cases d with
 |none=>rfl
 |some i=>
  cases x with
  |tmp j=>
   have:i≠j:=λq=>h i rfl (by rw [q])
   simp [ev,bw,aau this]
  |_=>rfl
theorem dD {ops:Array Oper} {o:Oper} {t:List (Option SV)} {d:Option Tmp} {v:SV} (h:∀i,d=some i->i ∉ o.looksAt ops):eV ops (bw t d v) o=eV ops t o:=by
 unfold eV
 cases hg:o.guard with
 |none=>rfl
 |some g=>
  obtain ⟨j,b⟩:=g
  simp only []
  cases hd:(ops.toList[j]?).bind (·.dst) with
  |none=>rfl
  |some k=>
   simp only []
   cases d with
   |none=>rfl
   |some i=>
    have hj:ops[j]? =ops.toList[j]? :=by simp
    have:i≠k:=λq=>h i rfl (by simp only [Oper.looksAt,hg,List.mem_append];right;rw [hj,hd,q];simp)
    simp [bw,aau this]
theorem gO {ops:Array Oper} {o:Oper} {t:List (Option SV)} {d:Option Tmp} {v:SV} (hn:∀i,d=some i->i ∉ o.looksAt ops):∀x∈o.op.operands,ev (bw t d v) x=ev t x:=by
 intro x hx
 apply PS
 intro i hi q
 subst q
 exact hn i hi (by simp only [Oper.looksAt,List.mem_append,List.mem_filterMap];exact .inl ⟨_,Array.mem_toList_iff.2 hx,rfl⟩)
theorem dI {t t':List (Option SV)} {o:Op} (e:∀x∈o.operands,ev t x=ev t' x):gu t o=gu t' o:=by
 cases o<;>simp only [gu,Op.operands] at e ⊢ <;>rw [e _ (by simp)]
theorem fG {t:List (Option SV)} {a b:Option Tmp} (u v:SV) (h:∀d,a=some d->b≠some d):bw (bw t a u) b v=bw (bw t b v) a u:=by
 cases a with
 |none=>rfl
 |some i=>
  cases b with
  |none=>rfl
  |some j=>
   have:i≠j:=λq=>h i rfl (by rw [q])
   exact List.set_comm _ _ this
theorem mq {Γ:bO} {G:bH} (hG:j4 Γ.pf G) {ey:Tmp->Bool} {k j:Nat} {t:List (Option SV)} {h:List Blk} {r:jr} {o:Oper} (hc:cv P Γ.pf o.op=0) (e:l6 P G ey k t h j o=some r):
  r.h=h/\r.kill=none/\∀h2,l6 P G ey k t h2 j o=some {r with h:=h2}:=by
 have nv:∀{α:Type} {x:Option α} {f:α->SV×Bool},x.map (λa=>jr.of h (f a))=some r->r.h=h/\r.kill=none/\∀h2,x.map (λa=>jr.of h2 (f a))=some {r with h:=h2}:=λ{α x f} hx=>by
  obtain ⟨a,ha,rfl⟩:=aag.1 hx
  exact ⟨rfl,rfl,λh2=>by rw [ha];rfl⟩
 unfold l6 at e ⊢
 generalize o.op=op at e hc ⊢
 cases op<;>simp only [cv] at hc<;>simp only at e ⊢
 case load=>cases hc
 case store=>cases hc
 case slice=>cases hc
 case convert src dst x=>
  cases Kl:Nat.beq src dst
  case true=>rw [Kl] at hc;cases hc
  simp only [Kl] at hc e ⊢
  have rX:Fu P src dst=false:=by
   split at hc
   ·cases hc
   ·assumption
  have hno:∀e,P.underlying src=some (.slice e)->P.underlying dst=some .string->False:=λe h1 h2=>by
   unfold Fu at rX
   rw [h1,h2] at rX
   cases rX
  generalize ev t x=z at e
  unfold sJ at e ⊢
  split at e
  ·split at e
   ·rename_i hd
    split at e
    ·split at e
     ·cases e;exact ⟨rfl,rfl,λh2=>rfl⟩
     ·cases e
    ·cases e
   ·exact nv (f:=λv=>(v,true)) e
  ·exact nv (f:=λv=>(v,true)) e
  ·split at e
   ·rename_i h1 h2
    exact (hno _ h1 h2).elim
   ·cases e
  ·split at e
   ·rename_i h1 h2 _ _
    exact (hno _ h1 h2).elim
   ·cases e
  ·cases e
 case call c=>
  cases fT:c.callee with
  |invoke rr m=>rw [fT] at e;cases e
  |value f=>
   rw [fT] at e hc
   simp only at e hc ⊢
   split at e
   ·rename_i f' first lO vs hf hvs
    split at e
    case h_2=>cases e
    obtain ⟨⟨v,h',new,q⟩,hg,rfl⟩:=aag.1 e
    cases f with
    |func g=>
     simp only [ev,No,SV.fn.injEq] at hf
     obtain ⟨rfl,rfl,rfl⟩:=hf
     simp only at hc
     have h0:Γ.pf g=0:=by
      split at hc
      ·assumption
      ·cases hc
      ·cases hc
     obtain ⟨h1,h2⟩:=hG.1 g h0 _ _ _ _ _ _ _ hg
     exact ⟨h1,rfl,λh3=>by rw [h2 h3];rfl⟩
    |_=>simp at hc
   ·cases e
  |builtin b=>
   rw [fT] at e hc
   cases b<;>simp only at e hc ⊢
   case len=>
    split at e
    ·exact nv (f:=λv=>(v,true)) e
    ·cases e
   case cap=>
    split at e
    ·exact nv (f:=λv=>(v,true)) e
    ·cases e
   case min=>
    split at e
    ·exact nv (f:=λn=>(_,true)) e
    ·cases e
   all_goals first|cases e|cases hc
 all_goals first
  |(cases e;done)
  |exact nv (f:=λv=>(v,true)) e
  |exact nv (f:=λq=>q) e
  |(obtain ⟨a,ha,rfl⟩:=aag.1 e;exact ⟨rfl,rfl,λh2=>by rw [ha];rfl⟩)
  |(split at e<;>first
    |(cases e;done)
    |exact nv (f:=λv=>(v,true)) e
    |exact nv (f:=λq=>q) e
    |(cases e;exact ⟨rfl,rfl,λh2=>rfl⟩)
    |(obtain ⟨a,ha,rfl⟩:=aag.1 e;exact ⟨rfl,rfl,λh2=>by rw [ha];rfl⟩)
    |(split at e<;>first|(cases e;done)|(rename_i hif;cases e;exact ⟨rfl,rfl,λh2=>by first|rfl|(rw [aaM hif];rfl)⟩)))
theorem oZ {h h2:List Blk} {a:SV} (hb:∀b,(match some a with|some (.sl b _ _ _ _ _ _ _)=>some b|some (.bK b _ _ _ _)=>some b|_=>none)=some b->h2[b]? =h[b]?):cu h2 a=cu h a:=by
 cases a with
 |bK b z len cap ex=>simp only [cu];rw [hb b rfl]
 |sl b o i z len cap ex wh=>simp only [cu];rw [hb b rfl]
 |nl v=>
  cases v with
  |slice a l c=>cases l<;>rfl
  |_=>rfl
 |_=>rfl
theorem BU {h h2:List Blk} {src dst:TypeId} {q:Option SV} {r:jr} (hh:∀a,q=some a->cu h2 a=cu h a) (e:sJ P h src dst q=some r):
  r.h=h/\r.new=[]/\r.kill=none/\sJ P h2 src dst q=some {r with h:=h2}:=by
 have of1:∀{α:Type} {x:Option α} {f:α->SV×Bool},x.map (λa=>jr.of h (f a))=some r->r.h=h/\r.new=[]/\r.kill=none/\x.map (λa=>jr.of h2 (f a))=some {r with h:=h2}:=λ{α x f} hx=>by
  obtain ⟨a,ha,rfl⟩:=aag.1 hx
  exact ⟨rfl,rfl,rfl,by rw [ha];rfl⟩
 unfold sJ at e ⊢
 cases q with
 |none=>cases e
 |some a=>
  have ha:=hh a rfl
  split at e
  ·split at e
   ·split at e
    ·split at e
     ·cases e;exact ⟨rfl,rfl,rfl,rfl⟩
     ·cases e
    ·cases e
   ·exact of1 (f:=λv=>(v,true)) e
  ·exact of1 (f:=λv=>(v,true)) e
  ·split at e
   ·split at e
    ·cases e;exact ⟨rfl,rfl,rfl,rfl⟩
    ·cases e
   ·cases e
  ·rename_i heq
   cases heq
   rw [ha]
   split at e
   ·split at e
    ·cases e;exact ⟨rfl,rfl,rfl,rfl⟩
    ·cases e
   ·cases e
  ·cases e
theorem fU {pf:FuncId->Nat} {G:bH} {ey:Tmp->Bool} {k j:Nat} {t:List (Option SV)} {h:List Blk} {r:jr} {o:Oper} (hc:cv P pf o.op=1) (e:l6 P G ey k t h j o=some r):
  r.h=h/\r.new=[]/\r.kill=none/\∀h2,(∀b,gu t o.op=some b->h2[b]? =h[b]?)->l6 P G ey k t h2 j o=some {r with h:=h2}:=by
 have nv:∀{x y:Option (SV×Bool)} {h2:List Blk},x.map (jr.of h)=some r->y=x->r.h=h/\y.map (jr.of h2)=some {r with h:=h2}:=λ{x y h2} hx hy=>by
  obtain ⟨a,ha,rfl⟩:=aag.1 hx
  exact ⟨rfl,by rw [hy,ha];rfl⟩
 have kn:∀{x:Option (SV×Bool)},x.map (jr.of h)=some r->r.new=[]/\r.kill=none:=λ{x} hx=>by
  obtain ⟨a,_,rfl⟩:=aag.1 hx
  exact ⟨rfl,rfl⟩
 unfold l6 at e ⊢
 generalize o.op=op at e hc ⊢
 cases op<;>simp only [cv] at hc<;>simp only [gu] at e ⊢
 case load ty x=>
  split at e
  ·rename_i a hx
   have hh:∀h2,(∀b,(match some a with|some (.ptr b _ _)=>some b|some (.dm b _ _ _ _)=>some b|_=>none)=some b->h2[b]? =h[b]?)->qR P ty h2 a=qR P ty h a:=λh2 hb=>by
    cases a with
    |ptr b o i=>simp only [qR];rw [hb b rfl]
    |dm b z e o i=>simp only [qR];rw [hb b rfl]
    |_=>rfl
   refine ⟨(nv (h2:=h) e rfl).1,(kn e).1,(kn e).2,λh2 hb=>(nv e (hh h2 ?_)).2⟩
   rw [hx] at hb;exact hb
  ·cases e
 case slice ty x lo hi mx=>
  split at e
  ·rename_i a l u m hx hlo hhi N8
   have hh:∀h2,(∀b,(match some a with|some (.ptr b _ _)=>some b|some (.dm b _ _ _ _)=>some b|_=>none)=some b->h2[b]? =h[b]?)->jL P ty h2 a l u m=jL P ty h a l u m:=λh2 hb=>by
    unfold jL
    split
    ·rename_i b o i _
     rw [hb b rfl]
    all_goals rfl
   have hhR:∀h2,(∀b,(match some a with|some (.ptr b _ _)=>some b|some (.dm b _ _ _ _)=>some b|_=>none)=some b->h2[b]? =h[b]?)->l5 P ty h2 a l u m=l5 P ty h a l u m:=λh2 hb=>by
    unfold l5
    split
    ·rename_i b z len cap ex
     have JU:jL P ty h2 (.sl b 0 0 z len cap ex false) none u m=jL P ty h (.sl b 0 0 z len cap ex false) none u m:=by
      unfold jL
      cases P.underlying ty with
      |none=>rfl
      |some d=>cases d<;>rfl
     cases l with
     |none=>simp only [JU]
     |some _=>rfl
    ·exact hh h2 hb
   have hh0:∀h2,(∀b,(match some a with|some (.ptr b _ _)=>some b|some (.dm b _ _ _ _)=>some b|_=>none)=some b->h2[b]? =h[b]?)->jM P ty h2 a l u m=jM P ty h a l u m:=λh2 hb=>by
    cases a<;>first|rfl|exact hhR h2 hb|(simp only [jM];split<;>first|rfl|exact hhR h2 hb)
   split at e
   ·refine ⟨(nv (h2:=h) e rfl).1,(kn e).1,(kn e).2,λh2 hb=>(nv e (hh0 h2 ?_)).2⟩
    rw [hx] at hb;exact hb
   refine ⟨(nv (h2:=h) e rfl).1,(kn e).1,(kn e).2,λh2 hb=>(nv e (hhR h2 ?_)).2⟩
   rw [hx] at hb;exact hb
  ·cases e
 case convert src dst x=>
  cases Kl:Nat.beq src dst
  case true=>rw [Kl] at hc;cases hc
  simp only [Kl] at hc e ⊢
  have c0:=BU (h2:=h) (λ_ _=>rfl) e
  refine ⟨c0.1,c0.2.1,c0.2.2.1,λh2 hb=>(BU (h2:=h2) (λa ha=>oZ ?_) e).2.2.2⟩
  rw [ha] at hb;exact hb
 case call c=>
  exfalso
  split at hc
  ·split at hc<;>cases hc
  ·cases hc
  ·cases hc
  ·cases hc
  ·cases hc
 all_goals first|(cases hc;done)|(split at hc<;>first|(cases hc;done)|(split at hc<;>cases hc))
theorem j5 {pf:FuncId->Nat} {G:bH} {ey:Tmp->Bool} {k j:Nat} {t:List (Option SV)} {h:List Blk} {r:jr} {o:Oper} (hc:cv P pf o.op=2) (e:l6 P G ey k t h j o=some r):
  r.new=[]/\r.kill=none/\∃b ps ps',gu t o.op=some b/\h[b]? =some (.b ps)/\r.h=h.set b (.b ps')/\∀h2,h2[b]? =h[b]? ->l6 P G ey k t h2 j o=some {r with h:=h2.set b (.b ps')}:=by
 unfold l6 at e ⊢
 generalize o.op=op at e hc ⊢
 cases op<;>simp only [cv] at hc<;>simp only [gu] at e ⊢
 case store ty x y=>
  split at e
  ·rename_i a v hx hy
   obtain ⟨⟨h',q⟩,hs,rfl⟩:=aag.1 e
   refine ⟨rfl,rfl,?_⟩
   rw [hx]
   cases a with
   |ptr b o i=>
    unfold fP at hs
    simp only at hs
    cases hb:h[b]? with
    |none=>rw [hb] at hs;cases hs
    |some bl=>
     cases bl with
     |g _=>rw [hb] at hs;cases hs
     |b ps=>
      rw [hb] at hs
      simp only at hs
      split at hs
      ·rename_i dR
       split at hs
       ·rename_i q' n' hsz
        split at hs
        ·rename_i hcd
         obtain ⟨ps',hp,h3⟩:=aag.1 hs
         simp only [aae] at h3
         obtain ⟨rfl,rfl⟩:=h3
         refine ⟨b,ps,ps',rfl,hb,rfl,λh2 PT=>?_⟩
         have:fP P ty h2 (.agg q') (.ptr b o 0)=some (h2.set b (.b ps'),true):=by
          unfold fP
          simp only [PT,hb,dR,hsz,hcd,if_true,hp,aaH]
         rw [this];rfl
        ·cases hs
       ·cases hs
      ·rename_i dR
       split at hs
       ·rename_i hcd
        obtain ⟨q',hp,h3⟩:=aag.1 hs
        simp only [aae] at h3
        obtain ⟨rfl,rfl⟩:=h3
        refine ⟨b,ps,q'.1,rfl,hb,rfl,λh2 PT=>?_⟩
        have:fP P ty h2 v (.ptr b o i)=some (h2.set b (.b q'.1),q'.2):=by
         unfold fP
         simp only [PT,hb,dR,hcd,if_true,hp,aaH]
        rw [this];rfl
       ·cases hs
      ·cases hs
   |dm b z el o i=>
    unfold fP at hs
    simp only at hs
    split at hs
    ·rename_i z' n g hb
     split at hs
     ·rename_i hz dR
      split at hs
      ·rename_i q' n' hsz
       split at hs
       ·rename_i hcd
        obtain ⟨ps',hp,h3⟩:=aag.1 hs
        simp only [aae] at h3
        obtain ⟨rfl,rfl⟩:=h3
        refine ⟨b,_,[.rows z n λi=>br (Nat.beq i el) ps' (g i)],rfl,hb,rfl,λh2 PT=>?_⟩
        have:fP P ty h2 (.agg q') (.dm b z el o 0)=some (h2.set b (.b [.rows z n λi=>br (Nat.beq i el) ps' (g i)]),decide (el<n)):=by
         unfold fP
         simp only [PT,hb,hz,dR,hsz,hcd,if_true,hp,aaH]
        rw [this];rfl
       ·cases hs
      ·cases hs
     ·rename_i hz dR
      split at hs
      ·rename_i hcd
       obtain ⟨q',hp,h3⟩:=aag.1 hs
       simp only [aae] at h3
       obtain ⟨rfl,rfl⟩:=h3
       refine ⟨b,_,[.rows z n λi=>br (Nat.beq i el) q'.1 (g i)],rfl,hb,rfl,λh2 PT=>?_⟩
       have:fP P ty h2 v (.dm b z el o i)=some (h2.set b (.b [.rows z n λi=>br (Nat.beq i el) q'.1 (g i)]),q'.2&&decide (el<n)):=by
        unfold fP
        simp only [PT,hb,hz,dR,hcd,if_true,hp,aaH]
       rw [this];rfl
      ·cases hs
     ·cases hs
    ·cases hs
   |_=>simp [fP] at hs
  ·cases e
 case call c=>
  exfalso
  split at hc
  ·split at hc<;>cases hc
  ·cases hc
  ·cases hc
  ·cases hc
  ·cases hc
 all_goals first|(cases hc;done)|(split at hc<;>first|(cases hc;done)|(split at hc<;>cases hc))
theorem s5 {Γ:bO} {G:bH} (hG:j4 Γ.pf G) {ey:Tmp->Bool} {k j:Nat} {t:List (Option SV)} {h:List Blk} {r:jr} {o:Oper} (hc:cv P Γ.pf o.op=4) (e:l6 P G ey k t h j o=some r):r.h=h/\∀h2,Dy h h2->l6 P G ey k t h2 j o=some {r with h:=h2}:=by
 unfold l6 at e ⊢
 generalize o.op=op at e hc
 cases op<;>simp only [cv] at hc<;>simp only at e ⊢
 case call c=>
  cases fT:c.callee with
  |invoke rr m=>rw [fT] at e;cases e
  |value f=>
   rw [fT] at e hc
   simp only at e hc ⊢
   split at e
   ·rename_i f' first lO vs hf hvs
    split at e
    case h_2=>cases e
    obtain ⟨⟨v,h',new,q⟩,hg,rfl⟩:=aag.1 e
    cases f with
    |func g=>
     simp only [ev,No,SV.fn.injEq] at hf
     obtain ⟨rfl,rfl,rfl⟩:=hf
     simp only at hc
     have h0:Γ.pf g=1:=by
      split at hc
      ·cases hc
      ·assumption
      ·cases hc
     obtain ⟨h1,h2⟩:=hG.2 g h0 _ _ _ _ _ _ _ hg
     exact ⟨h1,λh3 hle=>by rw [h2 h3 hle];rfl⟩
    |_=>simp at hc
   ·cases e
  |builtin b=>rw [fT] at hc;cases b<;>cases hc
 all_goals first|(cases hc;done)|(split at hc<;>first|(cases hc;done)|(split at hc<;>cases hc))
theorem lH (nb:FuncId->Nat) (ops:List Oper) (i:Nat) (o:Oper) (hi:ops[i]? =some o):makes nb (ops.take (i+1))=makes nb (ops.take i)+nH nb o.op:=by
 have:ops.take (i+1)=ops.take i++[o]:=by rw [List.take_add_one,hi];rfl
 simp [makes,this]
theorem Ay (nb:FuncId->Nat) (ops:List Oper) {i j:Nat} (h:i<=j):makes nb (ops.take i)<=makes nb (ops.take j):=by
 induction j with
 |zero=>obtain rfl:i=0:=by omega
        exact aaf _
 |succ j ih=>
  by_cases hij:i=j+1
  ·subst hij;exact aaf _
  ·have h1:=ih (by omega)
   cases hq:ops[j]? with
   |none=>
    have:ops.take (j+1)=ops.take j:=by rw [List.take_add_one,hq];simp
    rw [this];exact h1
   |some o=>rw [lH nb ops j o hq];omega
theorem kT {nb:FuncId->Nat} {ops:List Oper} {n i j:Nat} {x:Oper} (hi:ops[i]? =some x) (hij:i<j):cD nb ops n i+nH nb x.op<=cD nb ops n j:=by
 unfold cD
 have h1:=lH nb ops i x hi
 have h2:=Ay nb ops (i:=i+1) (j:=j) hij
 omega
theorem BV {nb:FuncId->Nat} {ops:List Oper} {n i:Nat}:n<=cD nb ops n i:=Nat.le_add_right _ _
theorem s6 {nb:FuncId->Nat} {ops:List Oper} {n i:Nat} {m:List Nat} {t:List (Option SV)} {o:Op} (h:iR nb ops n m i t o=true) {b:Nat} (hb:gu t o=some b):
  b<n\/∃j x,j<i/\(m.getD i 0).testBit j=true/\ops[j]? =some x/\cD nb ops n j<=b/\b<cD nb ops n j+nH nb x.op:=by
 unfold iR at h
 rw [hb] at h
 simp only [adS,aaT,aan,aac] at h
 rcases h with h|⟨j,hj,h1,h2⟩
 ·exact .inl (aaP h)
 ·split at h2
  ·rename_i x hx
   simp only [aac] at h2
   exact .inr ⟨j,x,hj,h1,hx,aaP h2.1,aaP h2.2⟩
  ·cases h2
theorem cW {h:List Blk}:∀{n j:Nat},iT h j n=true↔∀i,i<n->h[j+i]? =some .gap
 |0,j=>by simp [iT]
 |n+1,j=>by
  simp only [iT,aac,cW (n:=n) (j:=j+1)]
  constructor
  ·rintro ⟨h1,h2⟩ i hi
   cases i with
   |zero=>
    rw [Nat.add_zero]
    split at h1
    ·assumption
    ·cases h1
   |succ i=>rw [show j+(i+1)=j+1+i by omega];exact h2 i (by omega)
  ·intro hall
   refine ⟨?_,λi hi=>?_⟩
   ·have:=hall 0 (by omega);rw [Nat.add_zero] at this;rw [this]
   ·have:=hall (i+1) (by omega);rw [show j+(i+1)=j+1+i by omega] at this;exact this
theorem dF {h new:List Blk} {j i:Nat} (hi:i<j\/j+new.length<=i):(bV h j new)[i]? =h[i]? :=by
 rw [fF,aaC (by omega)]
theorem Az {h a b:List Blk} {i j:Nat} (hd:i+a.length<=j\/j+b.length<=i):bV (bV h i a) j b=bV (bV h j b) i a:=by
 apply abf
 intro x
 simp only [fF,kS]
 by_cases h1:j<=x/\x<j+b.length/\x<h.length
 ·rw [aaM h1,aaC (by omega),aaM h1]
 ·rw [aaC h1,aaC h1]
theorem mV {h a:List Blk} {i b:Nat} {bl:Blk} (hd:b<i\/i+a.length<=b):bV (h.set b bl) i a=(bV h i a).set b bl:=by
 apply abf
 intro x
 simp only [fF,List.getElem?_set,List.length_set,kS]
 by_cases h1:b=x
 ·subst h1
  rw [aaC (by omega)]
  simp
 ·simp only [h1,if_false]
theorem cl {Γ:bO} {G:bH} {k n i:Nat} {ops:List Oper} {m:List Nat} {t:List (Option SV)} {h h':List Blk} {v:SV} {p:Bool} {new:List Blk} {o:Oper}:BK P Γ G k ops n m i t h o=some (v,h',p,new)↔
  iR Γ.nb ops n m i t o.op=true/\∃r,l6 P G (yg Γ) k t h (cD Γ.nb ops n i) o=some r/\r.kill=none/\r.new.length=nH Γ.nb o.op/\iT h (cD Γ.nb ops n i) (nH Γ.nb o.op)=true/\r.h.length=h.length/\v=r.v/\h'=bV r.h (cD Γ.nb ops n i) r.new/\p=r.p/\new=r.new:=by
 unfold BK
 constructor
 ·intro g
  split at g
  ·rename_i r ha hr
   split at g
   ·rename_i hc
    simp only [aac,aab,Option.isNone_iff_eq_none] at hc
    simp only [No,aae] at g
    obtain ⟨rfl,rfl,rfl,rfl⟩:=g
    exact ⟨ha,r,hr,hc.1.1.1,hc.1.1.2,hc.1.2,hc.2,rfl,rfl,rfl,rfl⟩
   ·cases g
  ·cases g
 ·rintro ⟨ha,r,hr,h1,h2,h3,h4,rfl,rfl,rfl,rfl⟩
  rw [ha,hr]
  simp only
  have:(r.kill.isNone&&decide (r.new.length=nH Γ.nb o.op)&&iT h (cD Γ.nb ops n i) (nH Γ.nb o.op)&&decide (r.h.length=h.length))=true:=by
   simp [h1,h2,h3,h4]
  rw [this]
theorem FQ {Γ:bO} {G:bH} (hG:j4 Γ.pf G) {k n i i':Nat} {ops:List Oper} {m:List Nat} {x y:Oper} {t:List (Option SV)} (hx:ops[i]? =some x) (hlt:i<i') (PU:(m.getD i' 0).testBit i=false)
  (hc:(Pu (cv P Γ.pf x.op) (nH Γ.nb x.op) (cv P Γ.pf y.op) (nH Γ.nb y.op)||Fv (cv P Γ.pf x.op) (gu t x.op) (cv P Γ.pf y.op) (gu t y.op))=true) {h h1 h2:List Blk} {vx vy:SV} {px py:Bool} {wx wy:List Blk}
  (e1:BK P Γ G k ops n m i t h x=some (vx,h1,px,wx)) (e2:BK P Γ G k ops n m i' t h1 y=some (vy,h2,py,wy)):
  ∃h',BK P Γ G k ops n m i' t h y=some (vy,h',py,wy)/\BK P Γ G k ops n m i t h' x=some (vx,h2,px,wx):=by
 obtain ⟨ax,rx,ox,kx,nx,gx,lx,rfl,rfl,rfl,rfl⟩:=cl.1 e1
 obtain ⟨ay,ry,oy,ky,ny,gy,ly,rfl,rfl,rfl,rfl⟩:=cl.1 e2
 have hap:=kT (nb:=Γ.nb) (n:=n) hx hlt
 -- UJ and the numbers that are kept
 have Vi:∀b,gu t y.op=some b->b<cD Γ.nb ops n i\/cD Γ.nb ops n i+rx.new.length<=b:=λb hb=>by
  rw [nx]
  rcases s6 ay hb with h|⟨j,z,hj,h3,h4,h5,h6⟩
  ·have:=BV (nb:=Γ.nb) (ops:=ops) (n:=n) (i:=i);omega
  ·rcases Nat.lt_trichotomy j i with q|q|q
   ·have:=kT (nb:=Γ.nb) (n:=n) h4 q;omega
   ·subst q;rw [PU] at h3;cases h3
   ·have:=kT (nb:=Γ.nb) (n:=n) hx q;omega
 have Vj:∀b,gu t x.op=some b->b<cD Γ.nb ops n i':=λb hb=>by
  rcases s6 ax hb with h|⟨j,z,hj,h3,h4,h5,h6⟩
  ·have:=BV (nb:=Γ.nb) (ops:=ops) (n:=n) (i:=i');omega
  ·have:=kT (nb:=Γ.nb) (n:=n) h4 (show j<i' by omega);omega
 rw [adS] at hc
 rcases hc with hc|hc
 case inr=>
  -- UK blocks
  unfold Fv at hc
  rw [aac] at hc
  obtain ⟨Vk,hne⟩:=hc
  simp only [adS,aac,aaS] at Vk
  cases Vl:gu t x.op with
  |none=>rw [Vl] at hne;cases hne
  |some bx=>
   cases hby:gu t y.op with
   |none=>rw [Vl,hby] at hne;cases hne
   |some Df=>
    rw [Vl,hby] at hne
    have FR:bx≠Df:=λq=>by
     subst q
     have:Nat.beq bx bx=true:=Nat.beq_refl bx
     simp only [this] at hne
     cases hne
    -- what each agE
    have kx2:∀(c:cv P Γ.pf x.op=2),∃px',rx.new=[]/\(∃ps,h[bx]? =some (.b ps))/\rx.h=h.set bx (.b px')/\∀h2,h2[bx]? =h[bx]? ->l6 P G (yg Γ) k t h2 (cD Γ.nb ops n i) x=some {rx with h:=h2.set bx (.b px')}:=λc=>by
     obtain ⟨q3,_,b,ps,ps',hb,Vm,q1,qx⟩:=j5 c ox
     rw [Vl] at hb;cases hb
     exact ⟨ps',q3,⟨ps,Vm⟩,q1,qx⟩
    have ky2:∀{hh:List Blk},l6 P G (yg Γ) k t hh (cD Γ.nb ops n i') y=some ry->∀(c:cv P Γ.pf y.op=2),∃Og,ry.new=[]/\(∃ps,hh[Df]? =some (.b ps))/\ry.h=hh.set Df (.b Og)/\∀h2,h2[Df]? =hh[Df]? ->l6 P G (yg Γ) k t h2 (cD Γ.nb ops n i') y=some {ry with h:=h2.set Df (.b Og)}:=λoy c=>by
     obtain ⟨q3,_,b,ps,ps',hb,Vm,q1,qx⟩:=j5 c oy
     rw [hby] at hb;cases hb
     exact ⟨ps',q3,⟨ps,Vm⟩,q1,qx⟩
    have n0:∀{o:Oper},(cv P Γ.pf o.op=1\/cv P Γ.pf o.op=2)->∀{hh:List Blk} {j:Nat} {r:jr},l6 P G (yg Γ) k t hh j o=some r->r.new=[]:=λ{o} c {hh j r} ho=>by
     rcases c with c|c
     ·exact (fU c ho).2.1
     ·exact (j5 c ho).1
    have JV:rx.new=[]:=n0 (by omega) ox
    have kQ:ry.new=[]:=n0 (by omega) oy
    rw [JV] at oy gy ly nx
    simp only [bV] at oy gy ly
    rw [kQ] at ny
    have Vn:nH Γ.nb x.op=0:=nx.symm
    have UL:nH Γ.nb y.op=0:=ny.symm
    have FT:∀(hh:List Blk) (j:Nat),iT hh j 0=true:=λ_ _=>rfl
    rcases Vk with ⟨c2,c1|c2'⟩|⟨c1,c2⟩
    ·obtain ⟨px',_,_,q1,qx⟩:=kx2 c2
     obtain ⟨q2,_,_,qy⟩:=fU c1 oy
     have o2:=qy h λb hb=>by rw [hby] at hb;cases hb;rw [q1,aau FR]
     refine ⟨h,cl.2 ⟨ay,{ry with h:=h},o2,ky,by rw [kQ,UL];rfl,by rw [UL];exact FT _ _,rfl,rfl,by simp only;rw [kQ];rfl,rfl,rfl⟩,cl.2 ⟨ax,rx,ox,kx,by rw [JV,Vn];rfl,gx,lx,rfl,?_,rfl,rfl⟩⟩
     rw [q2,kQ,JV];rfl
    ·obtain ⟨px',_,⟨psx,hpx⟩,q1,qx⟩:=kx2 c2
     obtain ⟨Og,_,⟨psy,Du⟩,q2,qy⟩:=ky2 oy c2'
     have o2:=qy h (by rw [q1,aau FR])
     have o1:=qx (h.set Df (.b Og)) (by rw [aau (Ne.symm FR)])
     refine ⟨h.set Df (.b Og),cl.2 ⟨ay,_,o2,ky,by simp only;rw [kQ,UL];rfl,by rw [UL];exact FT _ _,by simp,rfl,by simp only;rw [kQ];rfl,rfl,rfl⟩,cl.2 ⟨ax,_,o1,kx,by simp only;rw [JV,Vn];rfl,by rw [Vn];exact FT _ _,by simp,rfl,?_,rfl,rfl⟩⟩
     simp only
     rw [q2,q1,kQ,JV]
     exact (List.set_comm _ _ FR)
    ·obtain ⟨q1,_,_,qx⟩:=fU c1 ox
     rw [q1] at oy gy ly
     obtain ⟨Og,_,⟨psy,Du⟩,q2,qy⟩:=ky2 oy c2
     have o1:=qx (h.set Df (.b Og)) λb hb=>by rw [Vl] at hb;cases hb;rw [aau (Ne.symm FR)]
     refine ⟨h.set Df (.b Og),cl.2 ⟨ay,ry,oy,ky,by rw [kQ,UL];rfl,by rw [UL];exact FT _ _,ly,rfl,by rw [q2,kQ];rfl,rfl,rfl⟩,cl.2 ⟨ax,_,o1,kx,by simp only;rw [JV,Vn];rfl,by rw [Vn];exact FT _ _,rfl,rfl,?_,rfl,rfl⟩⟩
     simp only
     rw [q2,kQ,JV];rfl
 unfold Pu at hc
 simp only [adS,aac,aaS] at hc
 by_cases cx:cv P Γ.pf x.op=0
 ·obtain ⟨q1,_,qx⟩:=mq hG cx ox
  rw [q1] at oy gy ly
  have BW:iT h (cD Γ.nb ops n i') (nH Γ.nb y.op)=true:=by
   rw [cW] at gy ⊢
   intro a ha
   have:=gy a ha
   rwa [dF (by rw [nx];omega)] at this
  have aa5:∀h':List Blk,(∀a,a<cD Γ.nb ops n i'->h'[a]? =h[a]?)->iT h' (cD Γ.nb ops n i) (nH Γ.nb x.op)=true:=λh' hh=>by
   rw [cW] at gx ⊢
   intro a ha
   rw [hh _ (by omega)];exact gx a ha
  by_cases cy:cv P Γ.pf y.op=0
  ·obtain ⟨q2,_,qy⟩:=mq hG cy oy
   refine ⟨bV h (cD Γ.nb ops n i') ry.new,cl.2 ⟨ay,{ry with h:=h},qy h,ky,ny,BW,rfl,rfl,rfl,rfl,rfl⟩,cl.2 ⟨ax,_,qx _,kx,nx,aa5 _ λa ha=>dF (.inl ha),rfl,rfl,?_,rfl,rfl⟩⟩
   rw [q2]
   exact Az (.inl (by rw [nx];exact hap))
  ·by_cases cy1:cv P Γ.pf y.op=1
   ·obtain ⟨q2,q3,_,qy⟩:=fU cy1 oy
    have:=qy h λb hb=>(dF (Vi b hb)).symm
    refine ⟨h,cl.2 ⟨ay,{ry with h:=h},this,ky,ny,BW,rfl,rfl,by rw [q3];rfl,rfl,rfl⟩,cl.2 ⟨ax,rx,ox,kx,nx,gx,lx,rfl,?_,rfl,rfl⟩⟩
    rw [q2,q3,q1];rfl
   ·by_cases cy2:cv P Γ.pf y.op=2
    ·obtain ⟨q3,_,b,ps,ps',hb,Vm,q2,qy⟩:=j5 cy2 oy
     have ho:=Vi b hb
     have:=qy h (dF ho).symm
     refine ⟨h.set b (.b ps'),cl.2 ⟨ay,_,this,ky,ny,BW,by simp,rfl,by simp only;rw [q3];rfl,rfl,rfl⟩,cl.2 ⟨ax,_,qx _,kx,nx,?_,rfl,rfl,?_,rfl,rfl⟩⟩
     ·rw [cW] at gx ⊢
      intro a ha
      rw [aau (by rw [nx] at ho;omega)];exact gx a ha
     ·rw [q2,q3]
      simp only [bV]
      exact (mV ho).symm
    ·-- x makes nothing
     have hn0:nH Γ.nb x.op=0:=by omega
     have hnew:rx.new=[]:=aaw.1 (by omega)
     rw [hnew] at oy gy ly
     simp only [bV] at oy gy ly
     refine ⟨_,cl.2 ⟨ay,ry,oy,ky,ny,BW,ly,rfl,rfl,rfl,rfl⟩,cl.2 ⟨ax,_,qx _,kx,nx,by rw [hn0];rfl,rfl,rfl,?_,rfl,rfl⟩⟩
     rw [hnew];rfl
 ·by_cases cy:cv P Γ.pf y.op=0
  ·obtain ⟨q2,_,qy⟩:=mq hG cy oy
   by_cases cx1:cv P Γ.pf x.op=1
   ·obtain ⟨q1,q3,_,qx⟩:=fU cx1 ox
    rw [q1,q3] at oy gy ly q2
    simp only [bV] at oy gy ly q2
    refine ⟨_,cl.2 ⟨ay,ry,oy,ky,ny,gy,ly,rfl,rfl,rfl,rfl⟩,?_⟩
    rw [q2]
    have:=qx (bV h (cD Γ.nb ops n i') ry.new) λb hb=>dF (.inl (Vj b hb))
    refine cl.2 ⟨ax,_,this,kx,nx,?_,rfl,rfl,by simp only;rw [q3];rfl,rfl,rfl⟩
    rw [cW] at gx ⊢
    intro a ha
    rw [dF (.inl (by omega))];exact gx a ha
   ·by_cases cx2:cv P Γ.pf x.op=2
    ·obtain ⟨q3,_,b,ps,ps',hb,Vm,q1,qx⟩:=j5 cx2 ox
     rw [q1,q3] at oy gy ly q2
     simp only [bV] at oy gy ly q2
     have ho:=Vj b hb
     refine ⟨_,cl.2 ⟨ay,_,qy h,ky,ny,?_,rfl,rfl,rfl,rfl,rfl⟩,?_⟩
     ·rw [cW] at gy ⊢
      intro a ha
      have:=gy a ha
      rwa [aau (by omega)] at this
     ·have:=qx (bV h (cD Γ.nb ops n i') ry.new) (dF (.inl ho))
      refine cl.2 ⟨ax,_,this,kx,nx,?_,by simp,rfl,?_,rfl,rfl⟩
      ·rw [cW] at gx ⊢
       intro a ha
       rw [dF (.inl (by omega))];exact gx a ha
      ·simp only;rw [q2,q3]
       simp only [bV]
       exact mV (.inl ho)
    ·by_cases cx4:cv P Γ.pf x.op=4/\nH Γ.nb x.op=0
     ·-- x only reads
      obtain ⟨q1,qx⟩:=s5 hG cx4.1 ox
      have uY:rx.new=[]:=aaw.1 (by omega)
      rw [q1,uY] at oy gy ly q2
      simp only [bV] at oy gy ly q2
      have hle:Dy h (bV h (cD Γ.nb ops n i') ry.new):=λa ps ha=>by
       rw [fF,aaC]
       ·exact ha
       ·intro UM
        have:=(cW.1 gy) (a-cD Γ.nb ops n i') (by rw [<-ny];omega)
        rw [show cD Γ.nb ops n i'+(a-cD Γ.nb ops n i')=a by omega,ha] at this
        cases this
      refine ⟨_,cl.2 ⟨ay,ry,oy,ky,ny,gy,ly,rfl,rfl,rfl,rfl⟩,?_⟩
      rw [q2]
      refine cl.2 ⟨ax,_,qx _ hle,kx,nx,by rw [cx4.2];rfl,rfl,rfl,by simp only;rw [uY];rfl,rfl,rfl⟩
     -- y makes nothing
     have hn0:nH Γ.nb y.op=0:=by omega
     have hnew:ry.new=[]:=aaw.1 (by omega)
     refine ⟨h,cl.2 ⟨ay,_,qy h,ky,ny,by rw [hn0];rfl,rfl,rfl,by simp only;rw [hnew];rfl,rfl,rfl⟩,cl.2 ⟨ax,rx,ox,kx,nx,gx,lx,rfl,?_,rfl,rfl⟩⟩
     rw [q2,hnew];rfl
  ·-- two that only read
   obtain ⟨⟨aa6,aa7⟩,JV,kQ⟩:((cv P Γ.pf x.op=1\/cv P Γ.pf x.op=4)/\(cv P Γ.pf y.op=1\/cv P Γ.pf y.op=4))/\nH Γ.nb x.op=0/\nH Γ.nb y.op=0:=by
    rcases hc with (hc|hc)|hc
    ·exact absurd hc.1 cx
    ·exact absurd hc.1 cy
    ·exact ⟨⟨hc.1.1.1,hc.1.1.2⟩,hc.1.2,hc.2⟩
   have uY:rx.new=[]:=aaw.1 (by omega)
   have xW:ry.new=[]:=aaw.1 (by omega)
   have q1:rx.h=h:=by
    rcases aa6 with c|c
    ·exact (fU c ox).1
    ·exact (s5 hG c ox).1
   rw [q1,uY] at oy gy ly
   simp only [bV] at oy gy ly
   have q2:ry.h=h:=by
    rcases aa7 with c|c
    ·exact (fU c oy).1
    ·exact (s5 hG c oy).1
   refine ⟨h,cl.2 ⟨ay,ry,oy,ky,ny,gy,ly,rfl,by rw [q2,xW];rfl,rfl,rfl⟩,cl.2 ⟨ax,rx,ox,kx,nx,gx,lx,rfl,by rw [q2,xW,q1,uY];rfl,rfl,rfl⟩⟩
end
theorem yD (acc:List Nat) (j:Nat):∀(es:List Edge) (s:Nat),(es.foldl (λs e=>if Region.binds .any e then s|||2^e.on|||acc.getD e.on 0 else s) s).testBit j=true->
  s.testBit j=true\/∃e∈es,Region.binds .any e=true/\(j=e.on\/(acc.getD e.on 0).testBit j=true)
 | [],s,h=>.inl h
 |e::es,s,h=>by
  simp only [List.foldl_cons] at h
  rcases yD acc j es _ h with h1|⟨e',he',hb,h1⟩
  ·split at h1
   ·rename_i hb
    simp only [Nat.testBit_or,adS,Nat.testBit_two_pow,aab] at h1
    rcases h1 with (h1|h1)|h1
    ·exact .inl h1
    ·exact .inr ⟨e,by simp,hb,.inl h1.symm⟩
    ·exact .inr ⟨e,by simp,hb,.inr h1⟩
   ·exact .inl h1
  ·exact .inr ⟨e',by simp [he'],hb,h1⟩
theorem s7 {l m:List Nat} {i:Nat} (h:i<l.length):(l++m).getD i 0=l.getD i 0:=by
 rw [aba,aaR h,aba]
def AA (ops:List Oper) (m:List Nat):Prop:=
 ∀(i:Nat) (o:Oper),i<m.length->ops[i]? =some o->∀j:Nat,(m.getD i 0).testBit j=true->∃e∈o.after.toList,Region.binds .any e=true/\(j=e.on\/(e.on<i/\(m.getD e.on 0).testBit j=true))
theorem yE:∀(rest done:List Oper) (acc:List Nat),acc.length=done.length->AA (done++rest) acc->AA (done++rest) (masks rest acc)
 | [],_,acc,_,h=>h
 |o::rest,done,acc,hl,h=>by
  have:done++o::rest=(done++[o])++rest:=by simp
  rw [this]
  apply yE rest (done++[o]) (acc++[Fx acc o]) (by simp [hl])
  rw [<-this]
  intro i x hi hx j hj
  rcases acf i acc.length with h1|h1
  ·rw [s7 h1] at hj
   obtain ⟨e,he,hb,h2⟩:=h i x h1 hx j hj
   refine ⟨e,he,hb,h2.imp id λh3=>⟨h3.1,?_⟩⟩
   rw [s7 (by omega)];exact h3.2
  ·simp at hi
   have hi':i=acc.length:=by omega
   subst hi'
   rw [hl,aaV (aaf _)] at hx
   simp at hx
   subst hx
   simp only [aba,aaV (aaf _),Nat.sub_self,aa2,Option.getD_some] at hj
   rcases yD acc j _ 0 hj with h2|⟨e,he,hb,h2⟩
   ·simp at h2
   ·refine ⟨e,he,hb,h2.imp id λh3=>?_⟩
    have:e.on<acc.length:=by
     rcases acf e.on acc.length with h4|h4
     ·exact h4
     ·rw [aba,aaJ h4] at h3;simp at h3
    exact ⟨this,by rw [s7 this];exact h3⟩
def FU (ops:List Oper) (listed:Array Bool):Prop:=
 ∀(j:Nat) (o:Oper),ops[j]? =some o->listed.getD j false=true->∀e∈o.after.toList,Region.binds .any e=true->listed.getD e.on false=true
theorem yF {ops:List Oper} {m:List Nat} (hm:AA ops m) (hlen:m.length=ops.length) {listed:Array Bool} (hc:FU ops listed):∀(n i:Nat) (o:Oper),i<=n->ops[i]? =some o->
  (∀e∈o.after.toList,Region.binds .any e=true->listed.getD e.on false=true)->∀j:Nat,(m.getD i 0).testBit j=true->listed.getD j false=true:=by
 intro n
 induction n with
 |zero=>
  intro i o hi ho hp j hj
  obtain ⟨e,he,hb,h1⟩:=hm i o (by rw [hlen];exact (aal.1 ho).1) ho j hj
  rcases h1 with rfl|⟨h1,_⟩
  ·exact hp e he hb
  ·omega
 |succ n ih=>
  intro i o hi ho hp j hj
  obtain ⟨e,he,hb,h1⟩:=hm i o (by rw [hlen];exact (aal.1 ho).1) ho j hj
  rcases h1 with rfl|⟨h1,h2⟩
  ·exact hp e he hb
  ·have hlt:e.on<ops.length:=by have:=(aal.1 ho).1;omega
   have heo:=aai hlt
   exact ih e.on _ (by omega) heo (hc e.on _ heo (hp e he hb)) j h2
theorem o6:∀(rest:List Oper) (acc:List Nat),(masks rest acc).length=acc.length+rest.length
 | [],acc=>by simp [masks]
 |o::rest,acc=>by rw [masks,o6 rest];simp;omega
section
variable {P:Program}
theorem mu {G:bH} {k j:Nat} {t:List (Option SV)} {h:List Blk} {r:jr} {o:Oper} (ha:isApp o.op=true) (e:l6 P G (λ_=>false) k t h j o=some r) (hn:r.new=[]):
  ∃b ps B,r.kill=some b/\h[b]? =some (.b ps)/\r.h=h.set b (.b B)/\dA b (h.set b (.b B))=true/\
   ∀h2 j2,h2[b]? =h[b]? ->(∀c,uR t o.op=some c->h2[c]? =h[c]?)->dA b (h2.set b (.b B))=true->l6 P G (λ_=>false) k t h2 j2 o=some {r with h:=h2.set b (.b B)}:=by
 obtain ⟨d,op,ty0,pos,aft,gd⟩:=o
 simp only at ha e ⊢
 unfold isApp at ha
 split at ha
 case h_2=>cases ha
 rename_i c
 split at ha
 case h_2=>cases ha
 rename_i fT
 have hd:(d.map λ_=>false).getD false=false:=by cases d<;>rfl
 unfold l6 at e ⊢
 simp only [fT,hd] at e ⊢
 split at e
 case h_2=>cases e
 rename_i ty xt a b Of hargs
 -- the arguments
 have hsrc:∀cc,(match some b with|some (.sl b _ _ _ _ _ _ _)=>some b|some (.bK b _ _ _ _)=>some b|_=>none)=some cc->uR t (.call c)=some cc:=λcc rX=>by
  cases hl:c.args.toList with
  |nil=>rw [hl] at hargs;cases hargs
  |cons a1 l1=>cases l1 with
   |nil=>
    rw [hl] at hargs
    simp only [rF] at hargs
    split at hargs
    ·rename_i h1 h2;cases h2;cases hargs
    ·cases hargs
   |cons a2 l2=>cases l2 with
    |nil=>
     rw [hl] at hargs
     simp only [rF] at hargs
     split at hargs
     ·rename_i u us h1 h2
      split at h2
      ·rename_i v vs h3 h4
       cases h4;cases h2;cases hargs
       simp only [uR,hl,h3]
       exact rX
      ·cases h2
     ·cases hargs
    |cons a3 l3=>
     exfalso
     have len:∀{xs:List Operand} {vs:List SV},rF t xs=some vs->vs.length=xs.length:=by
      intro xs
      induction xs with
      |nil=>intro vs h;cases h;rfl
      |cons x xs ih=>
       intro vs h
       simp only [rF] at h
       split at h
       ·rename_i h2;cases h;simp [ih h2]
       ·cases h
     have:=len hargs
     rw [hl] at this
     simp at this
 unfold rW at e ⊢
 split at e
 ·rename_i el kk h1 h2
  unfold wz at e ⊢
  split at e
  ·cases e;cases hn
  ·rename_i b0 z' len cap ex m z hki hok
   split at e
   ·rename_i zz n g zs hb Vg
    split at e
    ·rename_i iZ
     cases e
     simp only [aac] at iZ
     refine ⟨b0,_,_,rfl,hb,rfl,iZ.2,λDz j2 q1 q2 q3=>?_⟩
     simp only [q1,hb,Vg]
     rw [aaM (by simp only [aac];exact ⟨iZ.1,q3⟩)]
    ·cases e
   ·cases e
  ·cases e
 ·cases e
 ·rename_i el dd hni h1 h2
  split at e
  case h_2=>cases e
  rename_i z cy py ny hz sW kQ
  split at e
  ·cases e;cases hn
  ·rename_i b0 o0 i0 z' len cap ex wh
   split at e
   ·cases e;cases hn
   ·split at e
    ·rename_i hh;cases hh
    ·split at e
     case h_2=>cases e
     rename_i cx px rH
     split at e
     case isFalse=>
      split at e
      ·cases e;cases hn
      ·cases e
     rename_i iZ
     cases e
     have hb:∃ps,h[b0]? =some (.b ps):=by
      simp only [cu] at rH
      split at rH
      ·rename_i ps hps;exact ⟨ps,hps⟩
      ·cases rH
     obtain ⟨ps,hps⟩:=hb
     simp only [aac] at iZ
     refine ⟨b0,ps,lE cx cy,rfl,hps,rfl,iZ.2,λDz j2 q1 q2 q3=>?_⟩
     have e1:cu Dz b=cu h b:=oZ λcc rX=>q2 cc (hsrc cc rX)
     have e2:cu Dz (.sl b0 o0 i0 z' len cap ex wh)=cu h (.sl b0 o0 i0 z' len cap ex wh):=oZ λcc rX=>by cases rX;exact q1
     rw [e1,hz,sW,kQ]
     simp only [e2,rH]
     rw [aaM (by simp only [aac];exact ⟨iZ.1,q3⟩)]
  ·rename_i b0 z' len cap ex
   split at e
   ·cases e;cases hn
   ·rename_i hem
    split at e
    ·rename_i qq hqq
     split at e
     ·rename_i zz n g hb
      split at e
      ·rename_i iZ
       cases e
       simp only [aac] at iZ
       refine ⟨b0,_,_,rfl,hb,rfl,iZ.2,λDz j2 q1 q2 q3=>?_⟩
       have e1:cu Dz b=cu h b:=oZ λcc rX=>q2 cc (hsrc cc rX)
       rw [e1,hz,sW,kQ]
       simp only [q1,hb,hqq]
       rw [aaM (by simp only [aac];exact ⟨iZ.1,q3⟩)]
      ·cases e
     ·cases e
    rename_i hqq
    split at e
    ·rename_i zz n g hb
     split at e
     ·rename_i iZ
      cases e
      simp only [aac] at iZ
      refine ⟨b0,_,_,rfl,hb,rfl,iZ.2,λDz j2 q1 q2 q3=>?_⟩
      have e1:cu Dz b=cu h b:=oZ λcc rX=>q2 cc (hsrc cc rX)
      rw [e1,hz,sW,kQ]
      simp only [q1,hb,hqq]
      rw [aaM (by simp only [aac];exact ⟨iZ.1,q3⟩)]
     ·split at e
      ·cases e;cases hn
      ·cases e
    ·cases e
  ·cases e
 ·cases e
theorem mW {b:Nat} {t:List (Option SV)} {i:Nat} (h:kJ b (t[i]?)=true):(ez (some b) t)[i]? =t[i]? :=by
 simp only [ez,aaO]
 cases hq:t[i]? with
 |none=>rfl
 |some x=>
  cases x with
  |none=>rfl
  |some v=>
   rw [hq] at h
   simp only [kJ,aaY] at h
   simp [h]
theorem s8 {b:Nat} {t:List (Option SV)} {i:Nat} (h:kJ b ((ez (some b) t)[i]?)=true):kJ b (t[i]?)=true:=by
 simp only [ez,aaO] at h
 cases hq:t[i]? with
 |none=>rw [hq] at h;cases h
 |some x=>
  cases x with
  |none=>rw [hq] at h;cases h
  |some v=>
   rw [hq] at h
   simp only [aaH] at h
   by_cases hu:uses b v=true
   ·rw [aaM hu] at h;cases h
   ·rw [aaC hu] at h;exact h
theorem mX {b:Nat} {t:List (Option SV)} {d:Option Tmp} {v:SV} (h:uses b v=false):ez (some b) (bw t d v)=bw (ez (some b) t) d v:=by
 cases d with
 |none=>rfl
 |some i=>simp only [bw,ez,List.map_set,h];rfl
theorem jD {t:List (Option SV)} {d:Option Tmp} {v:SV} {i:Nat} (h:∀j,d=some j->j≠i):(bw t d v)[i]? =t[i]? :=by
 cases d with
 |none=>rfl
 |some j=>exact aau (h j rfl)
theorem BX {t t':List (Option SV)} {ops:Array Oper} {o:Oper} (h:∀i∈o.looksAt ops,t'[i]? =t[i]?):∀x∈o.op.operands,ev t' x=ev t x:=by
 intro x hx
 cases x with
 |tmp i=>
  have:=h i (by simp only [Oper.looksAt,List.mem_append,List.mem_filterMap];exact .inl ⟨_,Array.mem_toList_iff.2 hx,rfl⟩)
  simp only [ev,this]
 |_=>rfl
theorem fV {ops:Array Oper} {o:Oper} {i:Tmp} (h:i∈iU ops o):i∈o.looksAt ops:=by
 simp only [Oper.looksAt,List.mem_append]
 refine .inr ?_
 unfold iU at h
 cases hg:o.guard with
 |none=>rw [hg] at h;cases h
 |some g=>
  rw [hg] at h
  have:ops[g.1]? =ops.toList[g.1]? :=by simp
  simp only [this]
  exact h
theorem kU {t t':List (Option SV)} {ops:Array Oper} {o:Oper} (h:∀i∈iU ops o,t'[i]? =t[i]?):eV ops t' o=eV ops t o:=by
 unfold eV
 cases hg:o.guard with
 |none=>rfl
 |some g=>
  obtain ⟨j,w⟩:=g
  simp only
  cases hd:(ops.toList[j]?).bind (·.dst) with
  |none=>rfl
  |some i=>
   simp only
   rw [h i (by unfold iU;rw [hg];simp only;rw [hd];simp)]
theorem s9 {b:Nat} {h:List Blk}:dA b h=true↔∀(i:Nat) (x:Blk),h[i]? =some x->dA b [x]=true:=by
 unfold dA
 rw [aah]
 constructor
 ·intro g i x hi
  simp only [List.all_cons,List.all_nil,Bool.and_true]
  exact g x (aaG hi)
 ·intro g x hx
  obtain ⟨i,hi⟩:=List.getElem?_of_mem hx
  have:=g i x hi
  simpa only [List.all_cons,List.all_nil,Bool.and_true] using this
theorem yG {b r:Nat} {h new:List Blk} (h1:dA b h=true) (h2:dA b new=true):dA b (bV h r new)=true:=by
 rw [s9] at h1 h2 ⊢
 intro i x hi
 rw [fF] at hi
 split at hi
 ·exact h2 _ x hi
 ·exact h1 _ x hi
theorem u9 {b r:Nat} {h new:List Blk} (h1:dA b (bV h r new)=true) (hg:∀i,i<new.length->h[r+i]? =some .gap):dA b h=true:=by
 rw [s9] at h1 ⊢
 intro i x hi
 by_cases hr:r<=i/\i<r+new.length
 ·have:=hg (i-r) (by omega)
  rw [show r+(i-r)=i by omega,hi] at this
  cases this
  rfl
 ·refine h1 i x ?_
  rw [fF,aaC (by omega)]
  exact hi
theorem yH {b r n:Nat}:Ka b r n=true↔b<r\/r+n<=b:=by
 unfold Ka
 rw [adS]
 constructor
 ·rintro (h|h)
  ·exact .inl (aaP h)
  ·exact .inr (aaP h)
 ·rintro (h|h)
  ·exact .inl (adO h)
  ·exact .inr (adO h)
theorem yI {Γ:bO} {G:bH} (hG:j4 Γ.pf G) {k n j:Nat} {ops:List Oper} {m:List Nat} {y:Oper} {t:List (Option SV)} {h:List Blk} {v:SV} {h1:List Blk} {p:Bool} {new:List Blk}
  (hc:cv P Γ.pf y.op=0\/cv P Γ.pf y.op=1) (e:BK P Γ G k ops n m j t h y=some (v,h1,p,new)):
  h1=bV h (cD Γ.nb ops n j) new/\new.length=nH Γ.nb y.op/\∀q,q<new.length->h[cD Γ.nb ops n j+q]? =some .gap:=by
 obtain ⟨ay,ry,oy,ky,ny,gy,ly,rfl,rfl,rfl,rfl⟩:=cl.1 e
 refine ⟨?_,ny,λq hq=>(cW.1 gy) q (by omega)⟩
 rcases hc with hc|hc
 ·rw [(mq hG hc oy).1]
 ·rw [(fU hc oy).1]
theorem vB {Γ:bO} {G:bH} (hG:j4 Γ.pf G) {k n j:Nat} {ops:List Oper} {m:List Nat} {y:Oper} {t t':List (Option SV)} {h:List Blk} {b:Nat} {X:Blk} {v:SV} {h1:List Blk} {p:Bool} {new:List Blk}
  (he:∀x∈y.op.operands,ev t' x=ev t x) (hc:cv P Γ.pf y.op=0\/cv P Γ.pf y.op=1/\∀d,gu t y.op=some d->d≠b) (ho:b<cD Γ.nb ops n j\/cD Γ.nb ops n j+nH Γ.nb y.op<=b)
  (e:BK P Γ G k ops n m j t h y=some (v,h1,p,new)):
  BK P Γ G k ops n m j t' (h.set b X) y=some (v,bV (h.set b X) (cD Γ.nb ops n j) new,p,new):=by
 obtain ⟨ay,ry,oy,ky,ny,gy,ly,rfl,rfl,rfl,rfl⟩:=cl.1 e
 have hco:∀hh jj,l6 P G (yg Γ) k t' hh jj y=l6 P G (yg Γ) k t hh jj y:=λhh jj=>iK y he
 have ay':iR Γ.nb ops n m j t' y.op=true:=by
  have:iR Γ.nb ops n m j t' y.op=iR Γ.nb ops n m j t y.op:=by unfold iR;rw [dI he]
  rw [this];exact ay
 have AB:iT (h.set b X) (cD Γ.nb ops n j) (nH Γ.nb y.op)=true:=by
  rw [cW] at gy ⊢
  intro i hi
  rw [aau (by omega)]
  exact gy i hi
 rcases hc with hc|⟨hc,hd⟩
 ·obtain ⟨q1,_,qy⟩:=mq hG hc oy
  exact cl.2 ⟨ay',{ry with h:=h.set b X},by rw [hco];exact qy _,ky,ny,AB,rfl,rfl,rfl,rfl,rfl⟩
 ·obtain ⟨q1,q2,_,qy⟩:=fU hc oy
  exact cl.2 ⟨ay',{ry with h:=h.set b X},by rw [hco];exact qy _ λd hd'=>aau (Ne.symm (hd d hd')),ky,ny,AB,rfl,rfl,rfl,rfl,rfl⟩
theorem vC {f g:Fp} {cls n r:Nat} (h:vt f cls n r g=true):∃b,f.a=some b/\(cls=0\/cls=1/\∀d,g.a=some d->d≠b)/\(∀x∈g.sl,kJ b x=true)/\uses b g.v=false/\dA b g.new=true/\(b<r\/r+n<=b)/\∀c,f.c=some c->c<r\/r+n<=c:=by
 unfold vt at h
 split at h
 case h_2=>cases h
 rename_i b hb
 simp only [aac,adS,aaS,aah,aaY] at h
 obtain ⟨⟨⟨⟨⟨h1,h2⟩,h3⟩,h4⟩,h5⟩,h6⟩:=h
 refine ⟨b,hb,?_,h2,h3,h4,yH.1 h5,λc hc=>?_⟩
 ·rcases h1 with h1|⟨h1,h7⟩
  ·exact .inl h1
  ·refine .inr ⟨h1,λd hd=>?_⟩
   rw [hd] at h7
   simp only [aaY] at h7
   intro q
   subst q
   rw [Nat.beq_refl] at h7
   cases h7
 ·rw [hc] at h6
  exact yH.1 h6
theorem cE {Γ:bO} {G:bH} {k n i:Nat} {ops:Array Oper} {m:List Nat} {o:Oper} {s s1:St} {f:Fp}:(dV P Γ G k ops n m i o s=some (s1,f)/\f.q=1)↔
  eV ops s.t o=some true/\yh Γ o=false/\∃v h' p new,BK P Γ G k ops.toList n m i s.t s.h o=some (v,h',p,new)/\
   s1=⟨bw s.t o.dst (ei Γ.sym o.dst v).1,h',aa (aa s.ob p) (ei Γ.sym o.dst v).2⟩/\f=⟨1,gu s.t o.op,none,(o.looksAt ops).map λi=>s.t[i]?,(ei Γ.sym o.dst v).1,new⟩:=by
 unfold dV
 constructor
 ·rintro ⟨e,hf⟩
  split at e
  ·rename_i hw
   split at e
   ·split at e
    ·split at e
     ·cases e;cases hf
     ·cases e
    ·cases e
   ·rename_i hg
    split at e
    ·rename_i q hq
     obtain ⟨v,h',p,new⟩:=q
     cases e
     exact ⟨hw,hg,v,h',p,new,hq,rfl,rfl⟩
    ·cases e
  ·cases e;cases hf
  ·cases e
 ·rintro ⟨hw,hg,v,h',p,new,ho,rfl,rfl⟩
  simp only [hw,hg,ho]
  exact ⟨trivial,trivial⟩
theorem cJ {Γ:bO} {G:bH} {k n i:Nat} {ops:Array Oper} {m:List Nat} {o:Oper} {s s1:St} {f:Fp}:(dV P Γ G k ops n m i o s=some (s1,f)/\f.q=0)↔
  eV ops s.t o=some false/\s1=⟨bw s.t o.dst (.bC []),s.h,s.ob⟩/\f=⟨0,none,none,(iU ops o).map λi=>s.t[i]?,.bC [],[]⟩:=by
 unfold dV
 constructor
 ·rintro ⟨e,hf⟩
  split at e
  ·split at e
   ·split at e
    ·split at e
     ·cases e;cases hf
     ·cases e
    ·cases e
   ·split at e
    ·cases e;cases hf
    ·cases e
  ·rename_i hw;cases e;exact ⟨hw,rfl,rfl⟩
  ·cases e
 ·rintro ⟨hw,rfl,rfl⟩
  simp only [hw]
  exact ⟨trivial,trivial⟩
theorem eJ {Γ:bO} {G:bH} {k n i:Nat} {ops:Array Oper} {m:List Nat} {o:Oper} {s s1:St} {f:Fp}:(dV P Γ G k ops n m i o s=some (s1,f)/\f.q=2)↔
  eV ops s.t o=some true/\yh Γ o=true/\∃r,l6 P G (λ_=>false) k s.t s.h (cD Γ.nb ops.toList n i) o=some r/\r.new=[]/\
   s1=⟨bw (ez r.kill s.t) o.dst r.v,r.h,aa s.ob r.p⟩/\f=⟨2,r.kill,uR s.t o.op,[],.bC [],[]⟩:=by
 unfold dV
 constructor
 ·rintro ⟨e,hf⟩
  split at e
  ·rename_i hw
   split at e
   ·rename_i hg
    split at e
    ·rename_i r hr
     split at e
     ·rename_i hn
      cases e
      exact ⟨hw,hg,r,hr,hn,rfl,rfl⟩
     ·cases e
    ·cases e
   ·split at e
    ·cases e;cases hf
    ·cases e
  ·cases e;cases hf
  ·cases e
 ·rintro ⟨hw,hg,r,hr,hn,rfl,rfl⟩
  simp only [hw,hg,hr,hn]
  exact ⟨trivial,trivial⟩
theorem j6 {Γ:bO} {o:Oper} (h:yh Γ o=true):isApp o.op=true:=by
 unfold yh at h
 split at h
 ·assumption
 ·cases h
theorem kV {t t':List (Option SV)} {o:Op} (e:∀x∈o.operands,ev t x=ev t' x):uR t o=uR t' o:=by
 cases o<;>simp only [uR]
 rename_i c
 split
 ·rename_i y x hl
  rw [e x (by
   have:x∈c.args.toList:=by rw [hl];simp
   simp only [Op.operands,Call.operands]
   simp [Array.mem_toList_iff.1 this])]
 ·rfl
theorem AD {Γ:bO} {G:bH} (hG:j4 Γ.pf G) {k n i j:Nat} {ops:Array Oper} {m:List Nat} {x y:Oper} {f g:Fp} {s s1 s2:St} (d1:∀d,x.dst=some d->d ∉ y.looksAt ops) (d2:∀d,x.dst=some d->y.dst≠some d) (d3:∀d,y.dst=some d->d ∉ x.looksAt ops)
  (hc:vt f (cv P Γ.pf y.op) (nH Γ.nb y.op) (cD Γ.nb ops.toList n j) g=true) (e1:dV P Γ G k ops n m i x s=some (s1,f)) (e2:dV P Γ G k ops n m j y s1=some (s2,g)) (hf:f.q=2) (hg:g.q=1):
  ∃s',dV P Γ G k ops n m j y s=some (s',g)/\dV P Γ G k ops n m i x s'=some (s2,f):=by
 obtain ⟨wx,gx,r,hr,hn,rfl,rfl⟩:=eJ.1 ⟨e1,hf⟩
 obtain ⟨wy,gy,v,h',p,new,hy,rfl,rfl⟩:=cE.1 ⟨e2,hg⟩
 obtain ⟨b,ps,B,hk,hb,hh,hu,hall⟩:=mu (j6 gx) hr hn
 obtain ⟨b',hb',lF,JU,hv,hnew,hout,hsrc⟩:=vC hc
 simp only [hk,No] at hb'
 subst hb'
 simp only at lF JU hv hnew hsrc wy hy e2
 rw [hk] at wy hy JU lF
 -- the slots that y looks at
 have same:∀q∈y.looksAt ops,kJ b (s.t[q]?)=true/\(bw (ez (some b) s.t) x.dst r.v)[q]? =s.t[q]? :=λq hq=>by
  have h0:=JU _ (List.mem_map_of_mem hq)
  have hne:∀d,x.dst=some d->d≠q:=λd hd FV=>d1 d hd (FV▸hq)
  rw [jD hne] at h0
  have h1:=s8 h0
  exact ⟨h1,by rw [jD hne,mW h1]⟩
 have Vo:∀z∈y.op.operands,ev s.t z=ev (bw (ez (some b) s.t) x.dst r.v) z:=λz hz=>(BX (λq hq=>(same q hq).2) z hz).symm
 have hw:eV ops s.t y=some true:=by
  rw [<-wy]
  exact (kU λq hq=>(same q (fV hq)).2).symm
 rw [hh] at hy
 obtain ⟨rfl,nl,gp⟩:=yI hG (lF.imp id λq=>q.1) hy
 have o1:=vB hG (b:=b) (X:=.b ps) Vo lF hout hy
 have rG:(s.h.set b (.b B)).set b (.b ps)=s.h:=by
  rw [List.set_set]
  apply abf
  intro q
  by_cases hq:b=q
  ·subst hq
   rw [aay (aal.1 hb).1,hb]
  ·rw [aau hq]
 rw [rG] at o1
 have AB:∀q,q<new.length->s.h[cD Γ.nb ops.toList n j+q]? =some .gap:=λq hq=>by
  have:=gp q hq
  rw [aau (by omega)] at this
  exact this
 have Pz:bV (s.h.set b (.b B)) (cD Γ.nb ops.toList n j) new=(bV s.h (cD Γ.nb ops.toList n j) new).set b (.b B):=mV (by omega)
 refine ⟨⟨bw s.t y.dst (ei Γ.sym y.dst v).1,bV s.h (cD Γ.nb ops.toList n j) new,aa (aa s.ob p) (ei Γ.sym y.dst v).2⟩,?_,?_⟩
 ·have q:=(cE (P:=P) (G:=G) (k:=k) (n:=n) (i:=j) (ops:=ops) (m:=m) (o:=y) (s:=s) (Γ:=Γ)).2 ⟨hw,gy,v,_,p,new,o1,rfl,rfl⟩
  rw [q.1]
  congr 2
  simp only [hk]
  refine Fp.mk.injEq .. |>.mpr ⟨rfl,dI Vo,rfl,?_,rfl,rfl⟩
  exact List.map_congr_left λq hq=>(same q hq).2.symm
 ·have hpx:∀z∈x.op.operands,ev (bw s.t y.dst (ei Γ.sym y.dst v).1) z=ev s.t z:=gO d3
  have hs2:dA b ((bV s.h (cD Γ.nb ops.toList n j) new).set b (.b B))=true:=by
   rw [<-Pz];exact yG hu hnew
  have key:=hall (bV s.h (cD Γ.nb ops.toList n j) new) (cD Γ.nb ops.toList n i) (dF (by omega)) (λc hc=>dF (by have:=hsrc c hc;omega)) hs2
  rw [<-iK (t:=bw s.t y.dst (ei Γ.sym y.dst v).1) x hpx] at key
  have q:=(eJ (P:=P) (G:=G) (k:=k) (n:=n) (i:=i) (ops:=ops) (m:=m) (o:=x) (s:=⟨bw s.t y.dst (ei Γ.sym y.dst v).1,bV s.h (cD Γ.nb ops.toList n j) new,aa (aa s.ob p) (ei Γ.sym y.dst v).2⟩) (Γ:=Γ)).2 ⟨by rw [dD d3];exact wx,gx,_,key,hn,rfl,rfl⟩
  rw [q.1]
  congr 2
  ·simp only [hk]
   refine St.mk.injEq .. |>.mpr ⟨?_,Pz.symm,?_⟩
   ·rw [mX hv,fG _ _ (λd hd AE=>d2 d AE hd)]
   ·have:∀a c c' d:Bool,aa (aa (aa a c) c') d=aa (aa (aa a d) c) c':=by decide
    exact this _ _ _ _
  ·exact Fp.mk.injEq .. |>.mpr ⟨rfl,rfl,kV hpx,rfl,rfl,rfl⟩
theorem AF {Γ:bO} {G:bH} (hG:j4 Γ.pf G) {k n i j:Nat} {ops:Array Oper} {m:List Nat} {x y:Oper} {f g:Fp} {s s1 s2:St} (d1:∀d,x.dst=some d->d ∉ y.looksAt ops) (d2:∀d,x.dst=some d->y.dst≠some d) (d3:∀d,y.dst=some d->d ∉ x.looksAt ops)
  (hc:vt g (cv P Γ.pf x.op) (nH Γ.nb x.op) (cD Γ.nb ops.toList n i) f=true) (e1:dV P Γ G k ops n m i x s=some (s1,f)) (e2:dV P Γ G k ops n m j y s1=some (s2,g)) (hf:f.q=1) (hg:g.q=2):
  ∃s',dV P Γ G k ops n m j y s=some (s',g)/\dV P Γ G k ops n m i x s'=some (s2,f):=by
 obtain ⟨wx,gx,v,h',p,new,hx,rfl,rfl⟩:=cE.1 ⟨e1,hf⟩
 obtain ⟨wy,gy,r,hr,hn,rfl,rfl⟩:=eJ.1 ⟨e2,hg⟩
 simp only at wy hr
 obtain ⟨b,ps,B,hk,hb,hh,hu,hall⟩:=mu (j6 gy) hr hn
 obtain ⟨b',hb',lF,JU,hv,hnew,hout,hsrc⟩:=vC hc
 simp only [hk,No] at hb'
 subst hb'
 simp only at lF JU hv hnew hsrc
 have Du:∀z∈y.op.operands,ev (bw s.t x.dst (ei Γ.sym x.dst v).1) z=ev s.t z:=gO d1
 obtain ⟨rfl,nl,gp⟩:=yI hG (lF.imp id λq=>q.1) hx
 rw [iK y Du] at hr
 have hsb:uR (bw s.t x.dst (ei Γ.sym x.dst v).1) y.op=uR s.t y.op:=kV Du
 rw [hsb] at hsrc
 have hb0:s.h[b]? =(bV s.h (cD Γ.nb ops.toList n i) new)[b]? :=(dF (by omega)).symm
 have Pz:bV (s.h.set b (.b B)) (cD Γ.nb ops.toList n i) new=(bV s.h (cD Γ.nb ops.toList n i) new).set b (.b B):=mV (by omega)
 have AB:∀q,q<new.length->(s.h.set b (.b B))[cD Γ.nb ops.toList n i+q]? =some .gap:=λq hq=>by
  rw [aau (by omega)];exact gp q hq
 obtain ⟨b2,ps2,B2,hk2,hb2,hh2,N6,Vp⟩:=mu (j6 gy) hr hn
 rw [hk] at hk2
 cases hk2
 have hBB:B2=B:=by
  have h1:=hh.symm.trans hh2
  have h2:(_:List Blk)[b]? =(_:List Blk)[b]? :=adX (λl:List Blk=>l[b]?) h1
  have hlt:=(aal.1 hb).1
  rw [aay hlt,aay hlt] at h2
  cases h2;rfl
 subst hBB
 have key:=Vp s.h (cD Γ.nb ops.toList n j) hb0 (λc hc=>(dF (by have:=hsrc c hc;omega)).symm) (by
  refine u9 (new:=new) ?_ AB
  rw [Pz];exact N6)
 -- the slots that x looks at
 have same:∀q∈x.looksAt ops,(bw (ez (some b) s.t) y.dst r.v)[q]? =s.t[q]? :=λq hq=>by
  have h0:=JU _ (List.mem_map_of_mem hq)
  rw [jD (λd hd FV=>d3 d hd (FV▸hq)),mW h0]
 have Vo:∀z∈x.op.operands,ev (bw (ez (some b) s.t) y.dst r.v) z=ev s.t z:=BX same
 have o1:=vB hG (b:=b) (X:=.b B2) Vo lF hout hx
 refine ⟨⟨bw (ez (some b) s.t) y.dst r.v,s.h.set b (.b B2),aa s.ob r.p⟩,?_,?_⟩
 ·have q:=(eJ (P:=P) (G:=G) (k:=k) (n:=n) (i:=j) (ops:=ops) (m:=m) (o:=y) (s:=s) (Γ:=Γ)).2 ⟨by rw [<-dD d1];exact wy,gy,_,key,hn,rfl,rfl⟩
  rw [q.1]
  simp only [hk,hsb]
 ·have q:=(cE (P:=P) (G:=G) (k:=k) (n:=n) (i:=i) (ops:=ops) (m:=m) (o:=x) (s:=⟨bw (ez (some b) s.t) y.dst r.v,s.h.set b (.b B2),aa s.ob r.p⟩) (Γ:=Γ)).2
   ⟨by rw [<-wx];exact kU λq hq=>same q (fV hq),gx,v,_,p,new,o1,rfl,rfl⟩
  rw [q.1]
  congr 2
  ·simp only [hk,hh]
   refine St.mk.injEq .. |>.mpr ⟨?_,Pz,?_⟩
   ·rw [mX hv,fG _ _ (λd hd AE=>d2 d AE hd)]
   ·have:∀a c c' d:Bool,aa (aa (aa a d) c) c'=aa (aa (aa a c) c') d:=by decide
    exact this _ _ _ _
  ·exact Fp.mk.injEq .. |>.mpr ⟨rfl,dI Vo,rfl,List.map_congr_left λq hq=>same q hq,rfl,rfl⟩
theorem AG {Γ:bO} {G:bH} (hG:j4 Γ.pf G) {k n i i':Nat} {ops:Array Oper} {m:List Nat} {x y:Oper} {f g:Fp} (hx:ops.toList[i]? =some x) (hlt:i<i') (PU:(m.getD i' 0).testBit i=false)
  (hap:x.apart ops y=true) (hp:yj P Γ ops.toList n i x f i' y g=true) {s s1 s2:St} (e1:dV P Γ G k ops n m i x s=some (s1,f)) (e2:dV P Γ G k ops n m i' y s1=some (s2,g)):
  ∃s',dV P Γ G k ops n m i' y s=some (s',g)/\dV P Γ G k ops n m i x s'=some (s2,f):=by
 obtain ⟨h1,h2,h3⟩:(∀d,x.dst=some d->d ∉ y.looksAt ops)/\(∀d,x.dst=some d->y.dst≠some d)/\(∀d,y.dst=some d->d ∉ x.looksAt ops):=by
  unfold Oper.apart at hap
  simp only [aac] at hap
  obtain ⟨ha,hb⟩:=hap
  refine ⟨λd hd=>?_,λd hd=>?_,λd hd=>?_⟩
  ·rw [hd] at ha;simp at ha;exact ha.1
  ·rw [hd] at ha;simp at ha;exact ha.2
  ·rw [hd] at hb;simpa using hb
 have Kn:∀{j:Nat} {t:List (Option SV)} {h:List Blk} {o:Oper} {dd:Option Tmp} {v:SV},(∀d,dd=some d->d ∉ o.looksAt ops)->BK P Γ G k ops.toList n m j (bw t dd v) h o=BK P Γ G k ops.toList n m j t h o:=λ{j t h o dd v} hn=>by
  have he:=gO (t:=t) (v:=v) hn
  unfold BK
  rw [iK o he]
  have:iR Γ.nb ops.toList n m j (bw t dd v) o.op=iR Γ.nb ops.toList n m j t o.op:=by unfold iR;rw [dI he]
  rw [this]
 have BY:∀{t:List (Option SV)} {o:Oper} {dd:Option Tmp} {v:SV},(∀d,dd=some d->d ∉ o.looksAt ops)->((o.looksAt ops).map λi=>(bw t dd v)[i]?)=(o.looksAt ops).map λi=>t[i]? :=λ{t o dd v} hn=>
  List.map_congr_left λq hq=>jD λd hd FV=>hn d hd (FV▸hq)
 have BZ:∀{t:List (Option SV)} {o:Oper} {dd:Option Tmp} {v:SV},(∀d,dd=some d->d ∉ o.looksAt ops)->((iU ops o).map λi=>(bw t dd v)[i]?)=(iU ops o).map λi=>t[i]? :=λ{t o dd v} hn=>
  List.map_congr_left λq hq=>jD λd hd FV=>hn d hd (FV▸fV hq)
 have hb3:∀a b c b' c':Bool,aa (aa (aa (aa a b) b') c) c'=aa (aa (aa (aa a c) c') b) b':=by decide
 have skip:∀{s s1:St} {j:Nat} {o:Oper},eV ops s.t o=some false->dV P Γ G k ops n m j o s=some (⟨bw s.t o.dst (.bC []),s.h,s.ob⟩,⟨0,none,none,(iU ops o).map λi=>s.t[i]?,.bC [],[]⟩):=λ{s s1 j o} hw=>(cJ.2 ⟨hw,rfl,rfl⟩).1
 unfold yj at hp
 split at hp
 ·-- both plain
  rename_i hf hg
  obtain ⟨wx,gx,v,h',p,new,ox,rfl,rfl⟩:=cE.1 ⟨e1,hf⟩
  obtain ⟨wy,gy,v',h'',p',new',oy,rfl,rfl⟩:=cE.1 ⟨e2,hg⟩
  simp only at wy oy hp
  rw [dD h1] at wy
  rw [Kn h1] at oy
  rw [dI (gO (t:=s.t) (v:=(ei Γ.sym x.dst v).1) h1)] at hp
  obtain ⟨hh,o1,o2⟩:=FQ hG hx hlt PU hp ox oy
  refine ⟨_,(cE.2 ⟨wy,gy,_,_,_,_,o1,rfl,?_⟩).1,?_⟩
  ·rw [dI (gO (t:=s.t) (v:=(ei Γ.sym x.dst v).1) h1),BY h1]
  ·have q:=(cE (P:=P) (G:=G) (k:=k) (n:=n) (i:=i) (ops:=ops) (m:=m) (o:=x) (s:=⟨bw s.t y.dst (ei Γ.sym y.dst v').1,hh,aa (aa s.ob p') (ei Γ.sym y.dst v').2⟩) (Γ:=Γ)).2
    ⟨by rw [dD h3];exact wx,gx,v,h'',p,new,by rw [Kn h3];exact o2,rfl,rfl⟩
   rw [q.1]
   congr 2
   ·refine St.mk.injEq .. |>.mpr ⟨fG _ _ (λd hd AE=>h2 d AE hd),rfl,(hb3 _ _ _ _ _).symm⟩
   ·exact Fp.mk.injEq .. |>.mpr ⟨rfl,dI (gO h3),rfl,BY h3,rfl,rfl⟩
 ·rename_i hf hg;exact AD hG h1 h2 h3 hp e1 e2 hf hg
 ·rename_i hf hg;exact AF hG h1 h2 h3 hp e1 e2 hf hg
 ·rename_i hf hg
  obtain ⟨wx,rfl,rfl⟩:=cJ.1 ⟨e1,hf⟩
  obtain ⟨wy,rfl,rfl⟩:=cJ.1 ⟨e2,hg⟩
  simp only at wy
  rw [dD h1] at wy
  refine ⟨_,(cJ.2 ⟨wy,rfl,?_⟩).1,?_⟩
  ·rw [BZ h1]
  ·have q:=(cJ (P:=P) (G:=G) (k:=k) (n:=n) (i:=i) (ops:=ops) (m:=m) (o:=x) (s:=⟨bw s.t y.dst (.bC []),s.h,s.ob⟩) (Γ:=Γ)).2 ⟨by rw [dD h3];exact wx,rfl,rfl⟩
   rw [q.1]
   congr 2
   ·refine St.mk.injEq .. |>.mpr ⟨fG _ _ (λd hd AE=>h2 d AE hd),rfl,rfl⟩
   ·exact Fp.mk.injEq .. |>.mpr ⟨rfl,rfl,rfl,BZ h3,rfl,rfl⟩
 ·rename_i hf hg
  obtain ⟨wx,rfl,rfl⟩:=cJ.1 ⟨e1,hf⟩
  obtain ⟨wy,gy,v',h'',p',new',oy,rfl,rfl⟩:=cE.1 ⟨e2,hg⟩
  simp only at wy oy
  rw [dD h1] at wy
  rw [Kn h1] at oy
  refine ⟨_,(cE.2 ⟨wy,gy,_,_,_,_,oy,rfl,?_⟩).1,?_⟩
  ·rw [dI (gO (t:=s.t) (v:=.bC []) h1),BY h1]
  ·have q:=(cJ (P:=P) (G:=G) (k:=k) (n:=n) (i:=i) (ops:=ops) (m:=m) (o:=x) (s:=⟨bw s.t y.dst (ei Γ.sym y.dst v').1,h'',aa (aa s.ob p') (ei Γ.sym y.dst v').2⟩) (Γ:=Γ)).2 ⟨by rw [dD h3];exact wx,rfl,rfl⟩
   rw [q.1]
   congr 2
   ·refine St.mk.injEq .. |>.mpr ⟨fG _ _ (λd hd AE=>h2 d AE hd),rfl,rfl⟩
   ·exact Fp.mk.injEq .. |>.mpr ⟨rfl,rfl,rfl,BZ h3,rfl,rfl⟩
 ·rename_i hf hg
  obtain ⟨wx,gx,v,h',p,new,ox,rfl,rfl⟩:=cE.1 ⟨e1,hf⟩
  obtain ⟨wy,rfl,rfl⟩:=cJ.1 ⟨e2,hg⟩
  simp only at wy
  rw [dD h1] at wy
  refine ⟨_,(cJ.2 ⟨wy,rfl,?_⟩).1,?_⟩
  ·rw [BZ h1]
  ·have q:=(cE (P:=P) (G:=G) (k:=k) (n:=n) (i:=i) (ops:=ops) (m:=m) (o:=x) (s:=⟨bw s.t y.dst (.bC []),s.h,s.ob⟩) (Γ:=Γ)).2
    ⟨by rw [dD h3];exact wx,gx,v,h',p,new,by rw [Kn h3];exact ox,rfl,rfl⟩
   rw [q.1]
   congr 2
   ·refine St.mk.injEq .. |>.mpr ⟨fG _ _ (λd hd AE=>h2 d AE hd),rfl,rfl⟩
   ·exact Fp.mk.injEq .. |>.mpr ⟨rfl,dI (gO h3),rfl,BY h3,rfl,rfl⟩
 ·-- an append that afA its slice, and one that afB wanted
  rename_i hf hg
  obtain ⟨wx,gx,r,hr,hn,rfl,rfl⟩:=eJ.1 ⟨e1,hf⟩
  obtain ⟨wy,rfl,rfl⟩:=cJ.1 ⟨e2,hg⟩
  simp only at wy hp
  obtain ⟨b,ps,B,hk,hb,hh,hu,hall⟩:=mu (j6 gx) hr hn
  rw [hk] at wy hp
  simp only [aah] at hp
  have same:∀q∈iU ops y,(bw (ez (some b) s.t) x.dst r.v)[q]? =s.t[q]? :=λq hq=>by
   have h0:=hp _ (List.mem_map_of_mem hq)
   have hne:∀d,x.dst=some d->d≠q:=λd hd FV=>h1 d hd (FV▸fV hq)
   rw [jD hne] at h0
   rw [jD hne,mW (s8 h0)]
  rw [kU same] at wy
  refine ⟨_,(cJ.2 ⟨wy,rfl,?_⟩).1,?_⟩
  ·simp only [hk]
   refine Fp.mk.injEq .. |>.mpr ⟨rfl,rfl,rfl,List.map_congr_left same,rfl,rfl⟩
  ·have hpx:∀z∈x.op.operands,ev (bw s.t y.dst (.bC [])) z=ev s.t z:=gO h3
   have q:=(eJ (P:=P) (G:=G) (k:=k) (n:=n) (i:=i) (ops:=ops) (m:=m) (o:=x) (s:=⟨bw s.t y.dst (.bC []),s.h,s.ob⟩) (Γ:=Γ)).2
    ⟨by rw [dD h3];exact wx,gx,r,by rw [iK x hpx];exact hr,hn,rfl,rfl⟩
   rw [q.1]
   congr 2
   ·simp only [hk]
    refine St.mk.injEq .. |>.mpr ⟨?_,rfl,rfl⟩
    rw [mX rfl,fG _ _ (λd hd AE=>h2 d AE hd)]
   ·exact Fp.mk.injEq .. |>.mpr ⟨rfl,rfl,kV hpx,rfl,rfl,rfl⟩
 ·rename_i hf hg
  obtain ⟨wx,rfl,rfl⟩:=cJ.1 ⟨e1,hf⟩
  obtain ⟨wy,gy,r,hr,hn,rfl,rfl⟩:=eJ.1 ⟨e2,hg⟩
  simp only at wy hr hp
  rw [dD h1] at wy
  have Du:∀z∈y.op.operands,ev (bw s.t x.dst (.bC [])) z=ev s.t z:=gO h1
  rw [iK y Du] at hr
  obtain ⟨b,ps,B,hk,hb,hh,hu,hall⟩:=mu (j6 gy) hr hn
  rw [hk] at hp
  simp only [aah] at hp
  have same:∀q∈iU ops x,(bw (ez (some b) s.t) y.dst r.v)[q]? =s.t[q]? :=λq hq=>by
   have h0:=hp _ (List.mem_map_of_mem hq)
   rw [jD (λd hd FV=>h3 d hd (FV▸fV hq)),mW h0]
  refine ⟨⟨bw (ez r.kill s.t) y.dst r.v,r.h,aa s.ob r.p⟩,?_,?_⟩
  ·have q:=(eJ (P:=P) (G:=G) (k:=k) (n:=n) (i:=i') (ops:=ops) (m:=m) (o:=y) (s:=s) (Γ:=Γ)).2 ⟨wy,gy,r,hr,hn,rfl,rfl⟩
   rw [q.1]
   congr 2
   exact Fp.mk.injEq .. |>.mpr ⟨rfl,rfl,(kV Du).symm,rfl,rfl,rfl⟩
  ·have q:=(cJ (P:=P) (G:=G) (k:=k) (n:=n) (i:=i) (ops:=ops) (m:=m) (o:=x) (s:=⟨bw (ez r.kill s.t) y.dst r.v,r.h,aa s.ob r.p⟩) (Γ:=Γ)).2 ⟨by rw [hk,kU same];exact wx,rfl,rfl⟩
   rw [q.1]
   congr 2
   ·simp only [hk]
    refine St.mk.injEq .. |>.mpr ⟨?_,rfl,rfl⟩
    rw [mX rfl,fG _ _ (λd hd AE=>h2 d AE hd)]
   ·simp only [hk]
    exact Fp.mk.injEq .. |>.mpr ⟨rfl,rfl,rfl,List.map_congr_left same,rfl,rfl⟩
 ·cases hp
theorem yJ {Γ:bO} {G:bH} {k n i:Nat} {ops:Array Oper} {m:List Nat} {o:Oper} {s s':St} {f:Fp} (e:dV P Γ G k ops n m i o s=some (s',f)) (h:s'.ob=true):s.ob=true:=by
 unfold dV at e
 split at e
 ·split at e
  ·split at e
   ·split at e
    ·cases e;simp only [aC] at h;exact h.1
    ·cases e
   ·cases e
  ·split at e
   ·cases e;simp only [aC] at h;exact h.1.1
   ·cases e
 ·cases e;exact h
 ·cases e
def wU (P:Program) (Γ:bO) (G:bH) (k:Nat) (ops:Array Oper) (n:Nat) (m:List Nat) (φ:Nat->Fp):List Nat->St->St->Prop
 | [],s,s'=>s=s'
 |i::is,s,s'=>∃o s1,ops.toList[i]? =some o/\dV P Γ G k ops n m i o s=some (s1,φ i)/\wU P Γ G k ops n m φ is s1 s'
theorem yK {Γ:bO} {G:bH} {k n:Nat} {ops:Array Oper} {m:List Nat} {φ:Nat->Fp}:∀(is:List Nat) (s s':St) (fs:List Fp),wD P Γ G k ops n m is s=some (s',fs)->fs.length=is.length/\((∀(r i:Nat),is[r]? =some i->fs[r]? =some (φ i))->wU P Γ G k ops n m φ is s s')
 | [],s,s',fs,e=>by simp only [wD,No,aae] at e;obtain ⟨rfl,rfl⟩:=e;exact ⟨rfl,λ_=>rfl⟩
 |i::is,s,s',fs,e=>by
  simp only [wD] at e
  split at e
  ·cases e
  ·rename_i o ho
   split at e
   ·rename_i s1 f h1
    split at e
    ·rename_i s2 gs h2
     simp only [No,aae] at e
     obtain ⟨rfl,rfl⟩:=e
     obtain ⟨q1,q2⟩:=yK (φ:=φ) is s1 s2 gs h2
     refine ⟨by simp [q1],λhφ=>⟨o,s1,ho,?_,q2 λr j hr=>?_⟩⟩
     ·have:=hφ 0 i rfl
      simp only [aa2,No] at this
      rw [<-this];exact h1
     ·have:=hφ (r+1) j (by simpa using hr)
      simpa using this
    ·cases e
   ·cases e
theorem B1 {Γ:bO} {G:bH} {k n:Nat} {ops:Array Oper} {m:List Nat} {φ:Nat->Fp}:∀(is:List Nat) (s s':St),wU P Γ G k ops n m φ is s s'->s'.ob=true->s.ob=true
 | [],s,s',e,h=>by rw [wU] at e;subst e;exact h
 |i::is,s,s',⟨_,s1,_,h1,h2⟩,h=>yJ h1 (B1 is s1 s' h2 h)
theorem B3 {Γ:bO} {G:bH} {k n:Nat} {ops:Array Oper} {m:List Nat}:∀(is:List Nat) (s s':St) (fs:List Fp),wD P Γ G k ops n m is s=some (s',fs)->s'.ob=true->s.ob=true
 | [],s,s',fs,e,h=>by simp only [wD,No,aae] at e;obtain ⟨rfl,rfl⟩:=e;exact h
 |i::is,s,s',fs,e,h=>by
  simp only [wD] at e
  split at e
  ·cases e
  ·split at e
   ·rename_i s1 f h1
    split at e
    ·rename_i s2 gs h2
     simp only [No,aae] at e
     obtain ⟨rfl,rfl⟩:=e
     exact yJ h1 (B3 is s1 s2 gs h2 h)
    ·cases e
   ·cases e
theorem ta {Γ:bO} {G:bH} (hG:j4 Γ.pf G) {k n:Nat} {ops:Array Oper} {m:List Nat} {φ:Nat->Fp} {i:Nat} {y:Oper} (hi:ops.toList[i]? =some y):∀(pre post:List Nat) (s s':St),
  (∀j∈pre,j<i/\∀x,ops.toList[j]? =some x->(m.getD i 0).testBit j=false/\x.apart ops y=true/\yj P Γ ops.toList n j x (φ j) i y (φ i)=true)->wU P Γ G k ops n m φ (pre++i::post) s s'->∃s1,dV P Γ G k ops n m i y s=some (s1,φ i)/\wU P Γ G k ops n m φ (pre++post) s1 s'
 | [],post,s,s',_,e=>by
  obtain ⟨o,s1,ho,h1,h2⟩:=e
  rw [hi] at ho;cases ho
  exact ⟨s1,h1,h2⟩
 |j::pre,post,s,s',hc,e=>by
  obtain ⟨x,s0,hx,h0,e⟩:=e
  obtain ⟨s1,h1,h2⟩:=ta hG hi pre post s0 s' (λk hk=>hc k (by simp [hk])) e
  obtain ⟨hji,hjx⟩:=hc j (by simp)
  obtain ⟨hb,hap,hcm⟩:=hjx x hx
  obtain ⟨s2,h3,h4⟩:=AG hG hx hji hb hap hcm h0 h1
  exact ⟨s2,h3,x,s1,hx,h4,h2⟩
theorem yL {Γ:bO} {G:bH} (hG:mj P G) {k n nn:Nat} {ro:Option Nat} {m:List Nat} {ops:Array Oper} {o:Oper} {i:Nat} (hi:ops[i]? =some o) {s s':St} {f:Fp} (g:dV P Γ G k ops n m i o s=some (s',f)) (cA:s'.ob=true)
  {B:cP} {e:Env} {w:World} {t':List Value} {d:List Deferred} {Q:Exit->Act->World->Prop} {K:Act->World->Prop} (hk:∀i p,B.e.r i=some p->i<k) (hl:TR e s.t t') (R:Rel B e s.h w)
  (hK:∀e' w' t'',e'.m=e.m->TR e' s'.t t''->Rel B e' s'.h w'->K ⟨⟨t''⟩,d⟩ w'):wpOpIn (wF ro) nn P ops Q i K ⟨⟨t'⟩,d⟩ w:=by
 unfold dV at g
 unfold wpOpIn
 rw [hi]
 simp only []
 split at g
 ·rename_i hw
  rw [aaM (eI hl hw)]
  split at g
  ·split at g
   ·rename_i r hr
    split at g
    ·rename_i hnew
     cases g
     simp only [aC] at cA
     refine n5 hG hr cA.2 (.inr λa ha=>?_) hk hl R λe' v' w' hv R' hst=>?_
     ·rw [hnew] at ha;exact absurd ha (Nat.not_lt_zero _)
     obtain ⟨t'',q,hl'⟩:=TR.put (d:=d) (o:=o.dst) (hst.slots hl) hv
     rw [q]
     refine hK e' w' t'' hst.m hl' ?_
     rw [hnew,bz] at R'
     exact R'
    ·cases g
   ·cases g
  split at g
  ·rename_i q hop
   obtain ⟨v,h',p,nw⟩:=q
   obtain ⟨_,r,hr,Vq,hnew,PV,hlen,rfl,rfl,rfl,rfl⟩:=cl.1 hop
   cases g
   simp only [aC] at cA
   refine n5 hG hr cA.1.2 (.inr λa ha=>?_) hk hl R λe' v' w' hv R' hst=>?_
   ·rw [cW] at PV;exact PV a (by omega)
   rw [yC cA.2] at hK
   rw [Vq] at hst
   obtain ⟨t'',q,hl'⟩:=TR.put (d:=d) (o:=o.dst) (hst.slots hl) hv
   rw [q]
   refine hK e' w' t'' hst.m hl' ?_
   have Kf:bI r.h (cD Γ.nb ops.toList n i) r.new=bV r.h (cD Γ.nb ops.toList n i) r.new:=by
    unfold bI
    split
    ·rename_i hj
     have:r.new=[]:=by
      cases hq:r.new with
      |nil=>rfl
      |cons b bs=>
       exfalso
       have hpos:0<nH Γ.nb o.op:=by rw [<-hnew,hq];simp
       have:=(cW.1 PV) 0 hpos
       have:=(aal.1 this).1
       omega
     rw [this];simp [bV]
    ·rfl
   rw [Kf] at R'
   exact R'
  ·cases g
 ·rename_i hw
  cases g
  rw [aaC (by rw [eI hl hw];simp)]
  obtain ⟨t'',q,hl'⟩:=TR.put (d:=d) (o:=o.dst) hl (VR.empty (e:=e))
  rw [q]
  exact ⟨λ_ _=>trivial,hK e w t'' rfl hl' R⟩
 ·cases g
theorem DA {Γ:bO} {G:bH} (hG:mj P G) (hP:j4 Γ.pf G) {k n nn:Nat} {ro:Option Nat} {ops:Array Oper} {fs:List Fp} (hd:wE P Γ n fs ops=true):∀(fuel:Nat) (listed:Array Bool) (s s':St),listed.size=ops.size->FU ops.toList listed->
  ((List.range ops.size).filter λi=>!listed.getD i true).length=fuel->
  wU P Γ G k ops n (masks ops.toList []) (yl fs) ((List.range ops.size).filter λi=>!listed.getD i true) s s'->s'.ob=true->
  ∀{B:cP} {e:Env} {w:World} {t':List Value} {d:List Deferred} {Q:Exit->Act->World->Prop},(∀i p,B.e.r i=some p->i<k)->TR e s.t t'->Rel B e s.h w->
  (∀e' w' t'',e'.m=e.m->TR e' s'.t t''->Rel B e' s'.h w'->Q .normal ⟨⟨t''⟩,d⟩ w')->wpAnyIn (wF ro) nn P .any ops Q fuel listed ⟨⟨t'⟩,d⟩ w:=by
 have hd':∀(j:Nat) (y:Oper),ops.toList[j]? =some y->(∀e∈y.after.toList,Region.binds .any e=true->e.on<j)/\
   ∀(i:Nat) (x:Oper),i<j->ops.toList[i]? =some x->((masks ops.toList []).getD j 0).testBit i=true\/Fw P Γ n fs ops i x j y=true:=by
  intro j y hy
  unfold wE at hd
  rw [aah] at hd
  have hmem:(y,j)∈ops.toList.zipIdx:=by
   rw [List.mk_mem_zipIdx_iff_getElem?];exact hy
  have h1:=hd _ hmem
  simp only [aac,aah,adS,aaY,aab] at h1
  refine ⟨λe he hb=>(h1.1 e he).resolve_left (by simp [hb]),λi x hij hx=>?_⟩
  have h2:(x,i)∈ops.toList.zipIdx.take j:=by
   rw [aep]
   refine ⟨i,?_⟩
   rw [aa9 hij,List.getElem?_zipIdx,hx]
   simp
  exact h1.2 _ h2
 have FW:∀(listed:Array Bool) (i:Nat),i∈Region.ready .any ops listed->i∈(List.range ops.size).filter λi=>!listed.getD i true:=λlisted i hi=>by
  obtain ⟨h1,o,ho,_⟩:=mem_ready.1 hi
  rw [List.mem_filter,aan]
  exact ⟨(aav.1 ho).1,by simp only [h1,aeF]⟩
 intro fuel
 induction fuel with
 |zero=>
  intro listed s s' _ _ hlen hr cA B e w t' d Q hk hl R hQ
  have uW:=aaw.1 hlen
  rw [uW] at hr
  rw [wU] at hr
  subst hr
  refine ⟨?_,hQ e w t' rfl hl R⟩
  cases hrd:Region.ready .any ops listed with
  |nil=>rfl
  |cons i l=>
   have:=FW listed i (by rw [hrd];simp)
   rw [uW] at this
   cases this
 |succ fuel ih=>
  intro listed s s' hsz lF hlen hr cA B e w t' d Q hk hl R hQ
  refine ⟨λuW=>?_,λi hi=>?_⟩
  ·-- the first that is not listed is ready
   exfalso
   cases hL:(List.range ops.size).filter λi=>!listed.getD i true with
   |nil=>rw [hL] at hlen;cases hlen
   |cons i0 l=>
    have rY:i0∈(List.range ops.size).filter λi=>!listed.getD i true:=by rw [hL];simp
    rw [List.mem_filter,aan] at rY
    have mY:((List.range ops.size).filter λi=>!listed.getD i true).Pairwise (· < ·):=List.Pairwise.filter _ List.pairwise_lt_range
    have hmin:∀j,j<i0->listed.getD j false=true:=λj hj=>by
     cases hq:listed.getD j true with
     |true=>
      have uX:j<listed.size:=by rw [hsz];omega
      simp [uX] at hq ⊢;exact hq
     |false=>
      have hm:j∈(List.range ops.size).filter λi=>!listed.getD i true:=by
       rw [List.mem_filter,aan];exact ⟨by omega,by simp only [hq,aeF]⟩
      rw [hL] at hm mY
      rcases ad2.1 hm with rfl|hm
      ·omega
      ·have:=(List.pairwise_cons.1 mY).1 j hm;omega
    have ho:=Array.getElem?_eq_getElem (xs:=ops) rY.1
    have:i0∈Region.ready .any ops listed:=by
     refine mem_ready.2 ⟨by simpa using rY.2,_,ho,λe he hb=>hmin e.on ?_⟩
     exact (hd' i0 _ (by rw [Array.getElem?_toList];exact ho)).1 e (by simpa using he) hb
    rw [uW] at this
    cases this
  ·obtain ⟨hun,o,ho,hpre⟩:=mem_ready.1 hi
   have Ko:=FW listed i hi
   obtain ⟨pre,post,hsplit⟩:=List.append_of_mem Ko
   have mY:((List.range ops.size).filter λi=>!listed.getD i true).Pairwise (· < ·):=List.Pairwise.filter _ List.pairwise_lt_range
   rw [hsplit] at hr mY
   have AH:∀j∈pre,j<i:=λj hj=>(List.pairwise_append.1 mY).2.2 j hj i (by simp)
   have Kp:∀j∈post,i<j:=λj hj=>(List.pairwise_cons.1 (List.pairwise_append.1 mY).2.1).1 j hj
   have hol:ops.toList[i]? =some o:=by simpa using ho
   have hmk:=yE ops.toList [] [] rfl (λi o hi=>by simp at hi)
   have hml:(masks ops.toList []).length=ops.toList.length:=by rw [o6];simp
   have Vr:∀j∈pre,j<i/\∀x,ops.toList[j]? =some x->((masks ops.toList []).getD i 0).testBit j=false/\x.apart ops o=true/\yj P Γ ops.toList n j x (yl fs j) i o (yl fs i)=true:=λj hj=>⟨AH j hj,λx hx=>by
    have hnb:((masks ops.toList []).getD i 0).testBit j=false:=by
     cases hb:((masks ops.toList []).getD i 0).testBit j with
     |false=>rfl
     |true=>
      exfalso
      have h2:=yF (by simpa using hmk) hml lF i i o (aaf _) hol (λe he hb=>hpre e (by simpa using he) hb) j hb
      have hjm:j∈(List.range ops.size).filter λi=>!listed.getD i true:=by rw [hsplit];simp [hj]
      rw [List.mem_filter] at hjm
      have uX:j<listed.size:=by rw [hsz];exact aan.1 hjm.1
      have h3:=hjm.2
      simp [uX] at h2 h3
      rw [h2] at h3
      cases h3
    refine ⟨hnb,?_⟩
    rcases (hd' i o hol).2 j x (AH j hj) hx with h1|h1
    ·rw [hnb] at h1;cases h1
    ·unfold Fw at h1
     rw [aac] at h1
     exact h1⟩
   obtain ⟨s1,h1,h2⟩:=ta (P:=P) hP hol pre post s s' Vr hr
   refine yL hG ho h1 (B1 _ _ _ h2 cA) hk hl R λe' w' t'' hm' hl' R'=>?_
   have Vs:(List.range ops.size).filter (λj=>!(listed.setIfInBounds i true).getD j true)=pre++post:=by
    have e1:∀j,(listed.setIfInBounds i true).getD j true=(listed.getD j true||decide (j=i)):=λj=>by
     by_cases hij:i=j
     ·subst hij
      have his:i<listed.size:=by rw [hsz];exact (aav.1 ho).1
      simp [his]
     ·rw [getD_set_ne true hij]
      have:¬j=i:=λq=>hij q.symm
      simp [this]
    have e2:(List.range ops.size).filter (λj=>!(listed.setIfInBounds i true).getD j true)=((List.range ops.size).filter λj=>!listed.getD j true).filter λj=>decide (j≠i):=by
     rw [List.filter_filter]
     apply List.filter_congr
     intro j _
     rw [e1 j]
     by_cases hji:j=i<;>simp [hji]
    rw [e2,hsplit,List.filter_append,List.filter_cons]
    have e3:pre.filter (λj=>decide (j≠i))=pre:=List.filter_eq_self.2 λj hj=>by have:=AH j hj;simp;omega
    have e4:post.filter (λj=>decide (j≠i))=post:=List.filter_eq_self.2 λj hj=>by have:=Kp j hj;simp;omega
    rw [e3,e4]
    simp
   refine ih (listed.setIfInBounds i true) s1 s' (by simp [hsz]) ?_ ?_ (by rw [Vs];exact h2) cA hk hl' R' λe2 w2 t2 hm2 iI R2=>hQ e2 w2 t2 (hm2.trans hm') iI R2
   ·intro j x hx Vt e z5 hb
    by_cases hij:i=j
    ·subst hij
     rw [hol] at hx;cases hx
     exact getD_set_true (hpre e (by simpa using z5) hb)
    ·rw [getD_set_ne false hij] at Vt
     exact getD_set_true (lF j x hx Vt e z5 hb)
   ·rw [Vs]
    rw [hsplit] at hlen
    simp at hlen ⊢
    omega
theorem Rel.AB {B:cP} {e:Env} {h:List Blk} {w:World} (R:Rel B e h w) (n:Nat):Rel B e (h++List.replicate n .gap) w:=
 {os:=R.os,tape:=R.tape,output:=R.output,size:=R.size,inj:=R.inj,dom:=λi p hi=>by have:=R.dom i p hi;simp;omega,sep:=R.sep,eU:=R.eU,bp:=R.bp,dU:=R.dU,news:=R.news,bA:=R.bA,bM:=R.bM,n0:=R.n0,cI:=R.cI,
  ew:=λi ps hi=>by
   rcases acf i h.length with h1|h1
   ·rw [aaR h1] at hi;exact R.ew i ps hi
   ·rw [aaV h1,List.getElem?_replicate] at hi;split at hi<;>cases hi
  gap:=λi g hi=>by
   rcases acf i h.length with h1|h1
   ·rw [aaR h1] at hi;exact R.gap i g hi
   ·refine ⟨?_,?_⟩
    ·cases hq:e.r i with
     |none=>rfl
     |some p=>have:=R.dom i p hq;omega
    ·rw [aaV h1,List.getElem?_replicate] at hi
     split at hi
     ·cases hi;trivial
     ·cases hi
  yi:=R.yi,yb:=R.yb,old:=R.old,win:=R.win,kr:=R.kr,fO:=by have:=R.fO;simp;omega,fc:=R.fc,gJ:=R.gJ}
theorem o7 {Γ:bO} {G:bH} (hG:mj P G) (hP:j4 Γ.pf G) {k nn:Nat} {ro:Option Nat} {ops:Array Oper} (hm:P.follows .mixedOrders=true) {s s':St} {fs:List Fp} (hd:wE P Γ s.h.length fs ops=true)
  (hr:wD P Γ G k ops s.h.length (masks ops.toList []) (List.range ops.size) ⟨s.t,s.h++List.replicate (makes Γ.nb ops.toList) .gap,s.ob⟩=some (s',fs)) (cA:s'.ob=true)
  {B:cP} {e:Env} {w:World} {t':List Value} {d:List Deferred} {Q:Exit->Act->World->Prop} (hk:∀i p,B.e.r i=some p->i<k) (hl:TR e s.t t') (R:Rel B e s.h w)
  (hQ:∀e' w' t'',e'.m=e.m->TR e' s'.t t''->Rel B e' s'.h w'->Q .normal ⟨⟨t''⟩,d⟩ w') (id:Nat):(Code.region id ops true).wpIn (wF ro) nn P Q ⟨⟨t'⟩,d⟩ w:=by
 refine wpIn_region_any hm ?_
 have hall:(List.range ops.size).filter (λi=>!(Array.replicate ops.size false).getD i true)=List.range ops.size:=List.filter_eq_self.2 λi hi=>by
  rw [aan] at hi;simp [hi]
 have hrun:wU P Γ G k ops s.h.length (masks ops.toList []) (yl fs) (List.range ops.size) ⟨s.t,s.h++List.replicate (makes Γ.nb ops.toList) .gap,s.ob⟩ s':=by
  obtain ⟨q1,q2⟩:=yK (φ:=yl fs) _ _ _ _ hr
  refine q2 λr i hri=>?_
  have Kh:r<(List.range ops.size).length:=(aal.1 hri).1
  have Oh:r<ops.size:=by simpa using Kh
  rw [List.getElem?_range Oh] at hri
  cases hri
  have hlt:r<fs.length:=by rw [q1];exact Kh
  unfold yl
  rw [aai hlt]
 refine DA hG hP hd ops.size _ ⟨s.t,s.h++List.replicate (makes Γ.nb ops.toList) .gap,s.ob⟩ s' (by simp) ?_ (by rw [hall];simp) (by rw [hall];exact hrun) cA hk hl ((R.AB _).drawn _) hQ
 intro j o ho Vt
 rw [show (Array.replicate ops.size false).getD j false=false from by rw [Array.getD_eq_getD_getElem?,Array.getElem?_replicate];split<;>rfl] at Vt
 cases Vt
theorem kW {G:bH} (hG:mj P G) {sym:Tmp->Option Bool} {ey:Tmp->Bool} {k n:Nat} {ro:Option Nat} {ops:Array Oper}:∀(is:List Nat) (s s':St),b7 P G sym ey k ops is s=some s'->s'.ob=true->
  ∀{B:cP} {e:Env} {w:World} {t':List Value} {d:List Deferred} {Q:Exit->Act->World->Prop},(∀i p,B.e.r i=some p->i<k)->TR e s.t t'->Rel B e s.h w->
  (∀e' w' t'',e'.m=e.m->TR e' s'.t t''->Rel B e' s'.h w'->Q .normal ⟨⟨t''⟩,d⟩ w')->wpOpsIn (wF ro) n P ops Q is ⟨⟨t'⟩,d⟩ w
 | [],s,s',g,_,B,e,w,t',d,Q,hk,hl,R,hQ=>by
  simp only [b7,No] at g;subst g
  exact hQ e w t' rfl hl R
 |i::is,s,s',g,cA,B,e,w,t',d,Q,hk,hl,R,hQ=>by
  simp only [b7] at g
  have hi:ops[i]? =ops.toList[i]? :=by simp
  rw [wpOpsIn_cons]
  split at g
  ·rename_i hn
   rw [<-hi] at hn
   simp only [wpOpIn,hn]
   exact kW hG is s s' g cA hk hl R hQ
  ·rename_i o ho
   rw [<-hi] at ho
   split at g
   ·rename_i s1 h1
    refine s4 hG ho h1 (j0 is s1 s' g cA) hk hl R λe' w' t'' hm hl' R'=>?_
    exact kW hG is s1 s' g cA hk hl' R' λe2 w2 t2 hm2 iI R2=>hQ e2 w2 t2 (hm2.trans hm) iI R2
   ·cases g
end
end Go.Sy
