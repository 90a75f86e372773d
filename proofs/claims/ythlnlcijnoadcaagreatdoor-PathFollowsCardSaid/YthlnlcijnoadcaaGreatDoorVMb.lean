/- This file proves lemmas for the last one. Conditions: those in them. -/
import Derived.IntWalk
import Derived.Test.YthlnlcijnoadcaaGreatDoorVMa
import Derived.Laws.BytesArg
import Derived.RangeFuncRecord
noncomputable section
open Bool renaming true->Z,false->I
open Option renaming some->E,none->Y
open Decidable renaming decide->C
open List renaming length->A,getD->X,replicate->t9,range->t8
open Int renaming toNat->O
open Go.IntKind (i64)
set_option linter.all false
namespace Go.Sy
section
variable {P:Program} {e:cw} {B:dj} {h:List Blk} {w:World}
def Bi{a xT g x v q}(b:Da P a g x=E v)(m:VR e x q):∃v',(Instr.typeAssert q xT a g).run P w=.ok v' w/\VR e v v':=by
 unfold Da at b;split at b
 ·rename_i t y;obtain⟨k,p,rfl⟩:=m;split at b
  ·cases b
  ·rename_i d c i;split at b
   ·rename_i j;subst j;cases b;refine⟨match g with|true=>.tuple ⟨[k,.bool Z]⟩|false=>k,?_,?_⟩
    ·unfold Instr.typeAssert;rw[abe,abF i,aaJ];cases d<;>first|exact(c _ rfl).elim|(simp[akk];cases g<;>rfl)
    ·cases g
     ·exact p
     ·exact⟨_,⟨k,_,p,⟨.bool Z,[],rfl,rfl,rfl⟩,rfl⟩,rfl⟩
   ·rename_i j;split at b
    ·rename_i z o;cases b;have⟨f,l,n⟩:=acU.1 o;refine⟨.tuple ⟨[f,.bool I]⟩,?_,_,⟨f,_,n8 n,⟨.bool I,[],rfl,rfl,rfl⟩,rfl⟩,rfl⟩;unfold Instr.typeAssert;rw[abe,abF i,aaJ];cases d<;>first|exact(c _ rfl).elim|(simp[acB j,akk,abe,g9 l,aaJ,ach])
    ·cases b
  ·cases b
 ·rw[VR] at m;subst m;split at b
  ·cases b
  ·rename_i d z c i o;cases b;have⟨f,l,n⟩:=acU.1 o;refine⟨.tuple ⟨[f,.bool I]⟩,?_,_,⟨f,_,n8 n,⟨.bool I,[],rfl,rfl,rfl⟩,rfl⟩,rfl⟩;unfold Instr.typeAssert;rw[abe,abF i,aaJ];cases d<;>first|exact(c _ rfl).elim|(simp[akk,abe,g9 l,aaJ,ach])
  ·cases b
 ·cases b
def iD{n a m z len cap c t fr}(g:w.heap[n]?=E (.cells c t fr))(i:a+m*z<=c.size):
  (Builtin.firstCells z m (.slice (E ⟨n,a,Y⟩) len cap)).run P w=.ok ((c.toList.drop a).take (m*z)).toArray w:=by
 have b:A ((c.toList.drop a).take (m*z))=m*z:=by simp;omega
 refine run_firstCells_some w z m ⟨n,a,Y⟩ len cap _ b λj v d=>?_;rw[fX];apply nt g;have f:j<m*z:=by have:=(aaR.1 d).1;omega
 rwa [afY f,afO] at d
def mI{z a len cap}:(Builtin.firstCells z 0 (.slice a len cap)).run P w=.ok #[] w:=by cases a with
 |none=>simp[Builtin.firstCells]
 |some a=>exact run_firstCells_some w z 0 a len cap [] (by simp) (by simp)
def iE{l:List Value}{a b}(h:a<=b):(l.take b).take a=l.take a:=by rw[ahy,agK h]
def zG{z n g}{c:List Value}{o}(d:∀i,i<n->PR ⟨λ_=>Y,e.z,e.n0,[],λ_=>Y⟩ (g i) ((c.drop (o+i*z)).take z))(f:o+n*z<=A c):PR e [.aF z n g] ((c.drop o).take (n*z)):=by
 refine⟨_,[],?_,λi a=>?_,rfl,(acj _).symm⟩
 ·rw[afN,afj];omega
 ·have b:i*z+z<=n*z:=by
   have:=aeK z (Nat.succ_le_of_lt a);rw[Nat.succ_mul] at this;exact this
  rw[ahB,ahy,afu,agK (by omega)];exact d i a
def bI(R:bM B e h w){y y' cy n z}(d:dN h y=E (cy,Z))(H:qw y=E n)(W:VR e y y')(r:dF z y=Z):
  ∃ys,PR e cy ys/\A ys=n*z/\(Builtin.lenOf y').run P w=.ok n w/\∀m,m<=n->(Builtin.firstCells z m y').run P w=.ok (ys.take (m*z)).toArray w:=by
 have vn:∀{a}{cap},n=0->y'=.slice a 0 cap->PR e cy []->∃ys,PR e cy ys/\A ys=n*z/\(Builtin.lenOf y').run P w=.ok n w/\∀m,m<=n->(Builtin.firstCells z m y').run P w=.ok (ys.take (m*z)).toArray w:=λ{a cap} G an hp=>by
  subst G an;refine⟨[],hp,by simp,rfl,λm v=>?_⟩;obtain rfl:m=0:=by omega
  rw[mI];simp
 unfold dN at d;split at d
 ·
  simp[Mf,aad,aj7] at d;subst d;simp[qw,Mf] at H;subst H;obtain rfl:z=1:=acr r;rcases W with⟨rfl,a,cap,hv,_⟩|⟨n,o,cap,c,t,fr,rfl,hz,_,hq,Q,D⟩
  ·exact vn rfl hv ⟨[],rfl,rfl⟩
  ·have U:=R.gN _ _ _ _ hz;refine⟨bB ..,⟨[],rfl,by rw[bV rfl,acj]⟩,by simp[aQ],rfl,λm v=>?_⟩;rw[iD U (by omega),hq,iE (by omega)]
 ·
  simp[Mf,aad,aj7] at d;subst d;simp[qw,Mf] at H;subst H;obtain rfl:z=1:=acr r;obtain⟨s,rfl,rfl⟩:=W;refine⟨bB .u8 (kQ s),⟨[],rfl,by rw[bV rfl,acj]⟩,by simp[aQ],by rw[ic];rfl,λm v=>?_⟩;rw[ic] at v;show Result.ok _ w=_;congr 1;apply aiD;simp[bB,kQ,List.extract_eq_take_drop];rfl
 ·
  simp[Mf,aad,aj7] at d;subst d;simp[qw,Mf] at H;subst H;rw[VR] at W;exact vn rfl W rfl
 ·
  rename_i b o i l j cap ex wh;simp[qw,Mf] at H;subst H;have jA:=acr r;subst jA;split at d
  ·rename_i T U;rcases W with⟨rfl,rfl,a,hv⟩|⟨p,u,a,hp,rfl,ha,_,_,ad,D⟩
   ·refine vn rfl hv ?_;split at d
    ·split at d<;>(simp[Mf,aad] at d;have⟨rfl,_⟩:=d;exact⟨[],rfl,by simp[cD,bB]⟩)
    ·rename_i af hd ZR;rw[Nat.zero_mul] at d;have⟨q,M,L⟩:=aaC.1 d;simp[aad,aj7] at L;subst L;unfold O5 at M;have⟨q',_,h3⟩:=acU.1 M;have:qK q' 0=E []:=by cases q'<;>rfl
     rw[this] at h3;cases h3;exact rfl
    ·cases d
   ·have⟨c,t,x,al,nR,qh⟩:=R.block hp U;have mT:(∀m,m<=j->j≠0->a=p.base+(o+i*l)/\a+m*l<=c.size)->PR e cy (((c.toList.drop p.base).drop (o+i*l)).take (j*l))->A ((c.toList.drop p.base).drop (o+i*l))>=j*l->
      ∃ys,PR e cy ys/\A ys=j*l/\(Builtin.lenOf (.slice (E ⟨p.n,a,Y⟩) j u)).run P w=.ok j w/\∀m,m<=j->(Builtin.firstCells l m (.slice (E ⟨p.n,a,Y⟩) j u)).run P w=.ok (ys.take (m*l)).toArray w:=λhin am ap=>by
     refine⟨_,am,by rw[afN];omega,rfl,λm v=>?_⟩;by_cases G:j=0
     ·subst G;obtain rfl:m=0:=by omega
      rw[mI];simp
     ·have⟨M,L⟩:=hin m v G;rw[iD x L,M,afu,iE (aeK l v)]
    have U0:∀m,m<=j->j≠0->a=p.base+(o+i*l)/\a+m*l<=c.size:=λm v G=>by have M:=ha (by omega);have L:=D (by omega);have h3:m*l<=u*l:=aeK l (by omega);omega
    have aO:A (c.toList.drop p.base)=c.size-p.base:=by simp
    split at d
    ·rename_i k N xs rest hd;have⟨ab,V⟩:=hY hd qh;have⟨zs,ax,F⟩:=ab;have mX:A ((c.toList.drop p.base).take (aC T))=aC T:=by simp;omega
     have ay:aC T-o=N+A zs:=by
      have:=ahV List.length F;simp[afj,mX,abA,aQ,bp] at this;omega
     rw[mX] at V;have ae:∀a b,a+b<=N->((c.toList.drop p.base).drop (o+a)).take b=((bB k (cD N xs)).drop a).take b:=λa b aw=>by
      have M:(((c.toList.drop p.base).take (aC T)).drop o).drop a=((c.toList.drop p.base).drop (o+a)).take (aC T-(o+a)):=by rw[afu,ahB]
      rw[F,agj (by rw[aQ,bp];omega)] at M;have L:=ahV (List.take b) M;rw[iE (by omega),afk (by rw[afj,aQ,bp];omega)] at L;exact L.symm
     split at d
     ·simp[Mf,aad,No,aac] at d;obtain⟨rfl,jD,J,rfl⟩:=d;refine mT U0 ?_ (by simp;omega);have:=ae 0 j (by omega);simp[ajC,ajf,agE] at this ⊢;rw[this];exact⟨[],rfl,by rw[acj, <-dW,bV jD, <-qJ J,aaT (by omega),bV jD]⟩
     ·simp[Mf,aad,No,aac] at d;obtain⟨rfl,J,jD⟩:=d;refine mT U0 ?_ (by simp;omega);have:=ae i j J;simp[ajC] at this ⊢;rw[this];refine⟨[],rfl,?_⟩;rw[acj, <-gz, <-dW, <-zm, <-qJ (by omega)]
    ·rename_i af hd ZR;obtain⟨q,M,L⟩:=aaC.1 d;simp[aad,aj7] at L;subst L;obtain⟨ab,V⟩:=hY hd qh;have mX:A ((c.toList.drop p.base).take (aC T))=aC T:=by simp;omega
     obtain⟨h3,h4⟩:=tM M ab;rw[afj,mX] at h4;rw[mX] at V;refine mT U0 ?_ (by simp;omega);rw[afu,ahB,iE (by omega)] at h3;exact h3
    ·cases d
  ·cases d
 ·
  rename_i f l S g;simp[Mf,aad,aj7] at d;subst d;simp[qw,Mf] at H;subst H;have jA:l=z:=acr r;subst jA;rcases W with⟨G,a,cap,hv,_⟩|⟨nb,o,cap,c,t,fr,rfl,hz,_,hq,Q,D⟩
  ·refine vn G hv ⟨[],[],by simp[G],λi hi=>by omega,rfl,rfl⟩
  ·have U:=R.gN _ _ _ _ hz;have J:=aeK l Q;have ac:∀m,m<=S->m*l<=S*l:=λm v=>aeK l v;refine⟨(c.toList.drop o).take (S*l),zG hq (by simp;omega),by rw[afN,afj,aiv];omega,rfl,λm v=>?_⟩;have:=ac m v;rw[iD U (by omega),iE this]
 ·
  rename_i b l S wk t7;simp[qw,Mf] at H;subst H;have jA:l=z:=acr r;subst jA;split at d
  ·rename_i K N g U;split at d
   ·rename_i hz;obtain rfl:=acr hz;simp[Mf,aad,aac] at d;obtain⟨rfl,Bh⟩:=d;rcases W with⟨G,_,a,hv⟩|⟨p,u,a,hp,rfl,ha,_,_,ad,D⟩
    ·refine vn G hv ⟨[],[],by simp[G],λi hi=>by omega,rfl,rfl⟩
    ·obtain⟨c,t,x,al,nR,us,zs,k1,k2,k3,k4⟩:=R.block hp U;rw[PR] at k3;subst k3;rw[acj] at k4;have Fs:aC [SV.aF K N g]=N*K:=by simp[aC,kf]
     rw[Fs] at k4 nR;by_cases G:S=0
     ·subst G;refine⟨[],⟨[],[],by simp,λi hi=>by omega,rfl,rfl⟩,by simp,rfl,λm v=>?_⟩;obtain rfl:m=0:=by omega
      rw[mI];simp
     ·have ao:u≠0:=by omega
      have yE:=ha ao;have J:=aeK K Bh;have ac:∀m,m<=S->m*K<=S*K:=λm v=>aeK K v;refine⟨(c.toList.drop a).take (S*K),zG (λi hi=>?_) (by simp;omega),by rw[afN,afj,aiv];omega,rfl,λm v=>?_⟩
      ·have k:=k2 i (by omega);have aG:i*K+K<=N*K:=by have:=aeK K (show i+1<=N by omega);rw[Nat.succ_mul] at this;exact this
       rw[<-k4,ahB,ahy,afu,agK (by omega), <-yE] at k;exact k
      ·have:=ac m v;rw[iD x (by omega),iE this]
   ·cases d
  ·cases d
 ·cases d
end
section
variable {P:Program} {e:cw} {B:dj} {h:List Blk} {w:World}
def PR.split:∀{a b}{ys},PR e (a++b) ys->∃c d,ys=c++d/\PR e a c/\PR e b d
 | [],b,ys,h=>⟨[],ys,rfl,rfl,h⟩
 |x::a,b,ys,h=>by
  rw[List.cons_append] at h;by_cases k:bQ x=Z
  ·obtain⟨y,l,j,i,rfl⟩:=(PR.cons k).1 h;obtain⟨c,d,rfl,f,g⟩:=PR.split i;exact⟨y::c,d,rfl,(PR.cons k).2 ⟨y,c,j,f,rfl⟩,g⟩
  ·cases x<;>simp[bQ] at k
   ·obtain⟨l,i,rfl⟩:=h;obtain⟨c,d,rfl,f,g⟩:=PR.split i;exact⟨_,d,by rw[aeH],⟨c,f,rfl⟩,g⟩
   ·obtain⟨n,l,m,j,i,rfl⟩:=h;obtain⟨c,d,rfl,f,g⟩:=PR.split i;exact⟨_,d,by rw[aeH],⟨n,c,m,j,f,rfl⟩,g⟩
def eE a b:aC (a++b)=aC a+aC b:=by induction a with
 |nil=>simp[aC]
 |cons x d c=>simp[List.cons_append,aC,c];omega
def zH{f}:∀{ps ps'}{o},O7 f ps o=E ps'->∃pre p a post,ps=pre++p::post/\ps'=pre++a::post/\aC pre=o/\f p=E a/\atP ps o=E p
 | [],ps',o,h=>by cases o<;>simp[O7] at h
 |p::ps,ps',0,h=>by
  simp only[O7] at h;obtain⟨a,b,rfl⟩:=aaC.1 h;exact⟨[],p,a,ps,rfl,rfl,rfl,b,rfl⟩
 |p::ps,ps',o+1,h=>by
  simp[O7] at h
  split at h
  ·rename_i c
   have d:=aeN c
   obtain⟨k,b,rfl⟩:=aaC.1 h
   obtain⟨pre,x,j,post,rfl,rfl,l,g,i⟩:=zH b
   exact⟨p::pre,x,j,post,rfl,rfl,by simp[aC];omega,g,by simp[atP,c];exact i⟩
  ·cases h
def zd{xs ys i n m}(h1:A xs=m)(h2:i+n<=m)(a:n<=A ys):A (CX xs i ys n)=m:=by simp[CX];omega
def bM.bR(R:bM B e h w){b ps ps'}(l:h[b]?=E (.b ps))(h1:∀ys,PR e ps ys->PR e ps' ys)(h2:aC ps'=aC ps):bM B e (h.set b (.b ps')) w:=by
 have d:=(aaR.1 l).1;exact{
  os:=R.os,tape:=R.tape,output:=R.output,size:=R.size,inj:=R.inj,dom:=λi p a=>by simpa using R.dom i p a,gM:=R.gM,gN:=R.gN,bN:=R.bN,fU:=R.fU,cM:=R.cM,b6:=R.b6,cE:=R.cE,n0:=R.n0,dK:=R.dK
  gr:=λi m a=>by
   by_cases f:b=i
   ·subst f;rw[acg d] at a;cases a
    rcases R.gr b ps l with⟨k,j⟩|⟨p,o,k,j,c,t,rfl,q,r,n⟩
    ·exact .inl ⟨by omega,j⟩
    ·exact .inr ⟨p,_,k,j,c,t,rfl,q,by omega,by rw[h2];exact h1 _ n⟩
   ·rw[abI f] at a;exact R.gr i m a
  gap:=λi g a=>by
   by_cases f:b=i
   ·subst f;rw[acg d] at a;cases a
   ·rw[abI f] at a;exact R.gap i g a
  yi:=R.yi,yb:=R.yb,old:=R.old,lz:=R.lz,kr:=R.kr,iT:=by simpa using R.iT,g7:=R.g7,jG:=R.jG}
def abD{x m xs}(h:ajd x=E (m,xs)):∃k,x=.af k m xs:=by
 unfold ajd at h;split at h
 ·rename_i k b a;cases h;exact⟨k,rfl⟩
 ·cases h
def lV{b o i n k ys h'}(a:wM h b o i k ys n=E (h',Z)):∃ps pre post m xs,h[b]?=E (.b ps)/\ps=pre++ .af k m xs::post/\aC pre=o/\
  h'=h.set b (.b (pre++ .af k m (CX xs i ys n)::post))/\A xs=m/\i+n<=m/\n<=A ys:=by
 unfold wM at a;split at a
 ·rename_i ps r;split at a
  ·rename_i m xs p f s;simp[Mf,aad,No,aac] at a;have⟨rfl,⟨l,d⟩,g⟩:=a;obtain⟨pre,x,v,post,rfl,rfl,t,c,q⟩:=zH s;rw[q] at f;obtain⟨u,rfl⟩:=abD f;simp only[arU] at c;split at c
   ·rename_i j;subst j;cases c;exact⟨_,pre,post,m,xs,r,rfl,t,rfl,l,d,g⟩
   ·cases c
  ·cases a
 ·cases a
def U1 xs i ys:CX xs i ys 0=xs:=by simp[CX]
def nv(R:bM B e h w){b o i k ys h'}(a:wM h b o i k ys 0=E (h',Z)):bM B e h' w:=by obtain⟨f,pre,post,m,d,c,rfl,_,rfl,_⟩:=lV a;rw[U1];exact R.bR c (λ_ g=>g) rfl
def vo(R:bM B e h w){b o i n k ys h' p}(L:wM h b o i k ys n=E (h',Z))(D:e.r b=E p):
  ∃w',(storeCells ⟨p.n,p.base+(o+i),Y⟩ (bB k (ys.take n)) 0).run P w=.ok () w'/\bM B e h' w':=by
 obtain⟨W,pre,post,m,a,S,rfl,z,rfl,v,q,H⟩:=lV L;have⟨c,t,Q,s,M,N⟩:=R.block D S;have y:A (bB k (ys.take n))=n:=by simp[aQ];omega
 have d:aC (pre++ .af k m a::post)=o+(m+aC post):=by rw[eE,z];simp[aC,kf]
 refine R.storeAt D Q s M (o+i) _ _ (by rw[y,d];omega) (by rw[eE,eE];simp[aC,kf]) (λv u=>?_) ?_
 ·simp[bB,List.map_take] at u;obtain⟨x,_,rfl⟩:=ajj.1 (List.mem_of_mem_take u);rfl
 ·have⟨l,V,G,F,J⟩:=N.split;obtain⟨j,K,rfl⟩:=J;rw[G];have f:A l=o:=by rw[F.length,z]
  rw[bV v,y];have e1:(l++(bB k a++j)).take (o+i)=l++(bB k a).take i:=by rw[List.take_append,aaT (by omega),f,aic,afk (by rw[aQ];omega)]
  have e2:(l++(bB k a++j)).drop (o+i+n)=(bB k a).drop (i+n)++j:=by rw[List.drop_append,ahW (by omega),List.nil_append,f,show o+i+n-o=i+n by omega,agj (by rw[aQ];omega)]
  rw[e1,e2];refine(F.append (show PR e (.af k m (CX ..)::post) (bB ..++j) from⟨j,K,by rw[bV (zd v q H)]⟩)) |> λg=>?_;have T:bB k (CX a i ys n)=(bB k a).take i++bB k (ys.take n)++(bB k a).drop (i+n):=by simp[CX,jC,dW,gz]
  rw[T] at g;simpa[aeH] using g
structure IY(P:Program)(w:World)(sT xT ty el:TypeId)(i:TypeInfo)(zv:Value)(y':Value)(ny:Nat)(C:List Value->Prop):Prop where
 fit:∃ys,C ys/\∀(base:Option Addr)(sLen sCap:Nat)(w':World),sLen+ny<=sCap->((base=none/\w'=w)\/∃a,base=some a/\(storeCells (a.add (sLen*i.size)) ys 0).run P w=.ok () w')->
  (Builtin.append_ #[sT,xT] ty #[.slice base sLen sCap,y']).run P w=.ok (.slice base (sLen+ny) sCap) w'
 tV:∃ys,C ys/\∀(base:Option Addr)(sLen sCap:Nat)(olds:List Value),(Builtin.firstCells i.size sLen (.slice base sLen sCap)).run P w.drew=.ok olds.toArray w.drew->sCap<sLen+ny->sLen+ny<=2^38->
  (Builtin.append_ #[sT,xT] ty #[.slice base sLen sCap,y']).run P w=
   .ok (.slice (some ⟨w.heap.size,0,none⟩) (sLen+ny) (grownCap w (sLen+ny) sCap el)) (w.drew.alloc (.cells (olds++ys++(Builtin.zeroCells zv.cells (grownCap w (sLen+ny) sCap el-(sLen+ny))).toList).toArray el))
def cP{sT xT ty el i d base sLen sCap n y' cM w'}(g:P.underlying sT=E (.slice el))(m:P.underlying xT=E d)(o:∀k,d≠.int k)(hi:P.info? el=E i)
  (c:(Builtin.lenOf y').run P w=.ok n w)(l:(Builtin.firstCells i.size n y').run P w=.ok cM.toArray w)(b:sLen+n<=sCap)
  (f:(base=Y/\w'=w)\/∃a,base=E a/\(storeCells (a.add (sLen*i.size)) cM 0).run P w=.ok () w'):
  (Builtin.append_ #[sT,xT] ty #[.slice base sLen sCap,y']).run P w=.ok (.slice base (sLen+n) sCap) w':=by
 unfold Builtin.append_;simp only[ahF,afZ,ag0,abe,abF g,abF m,aaJ,sizeOf,typeInfo,run_program,hi,ach,aii,if_false,c,aiW,akk,ae8 b,l];rcases f with⟨rfl,rfl⟩|⟨a,rfl,j⟩
 ·simp
 ·simp[j]
def fe{sT xT ty el i d o base sLen sCap n y' a cM}(r:P.underlying sT=E (.slice el))(x:P.underlying xT=E d)(y:∀k,d≠.int k)(hi:P.info? el=E i)(q:i.zero=E o)
  (c:(Builtin.lenOf y').run P w=.ok n w)(g:(Builtin.firstCells i.size sLen (.slice base sLen sCap)).run P w.drew=.ok a.toArray w.drew)(t:(Builtin.firstCells i.size n y').run P w.drew=.ok cM.toArray w.drew)
  (p:sCap<sLen+n)(s:((sLen+n:Nat):Int)<=9223372036854775807)(u:(sLen+n)*i.bytes<=140737488355328):
  (Builtin.append_ #[sT,xT] ty #[.slice base sLen sCap,y']).run P w=
   .ok (.slice (E ⟨w.heap.size,0,Y⟩) (sLen+n) (grownCap w (sLen+n) sCap el)) (w.drew.alloc (.cells (a++cM++(Builtin.zeroCells o.cells (grownCap w (sLen+n) sCap el-(sLen+n))).toList).toArray el)):=by
 have v:¬(sLen+n<=sCap):=by omega
 have f:¬((sLen+n:Nat):Int)>IntKind.i64.max:=by show¬(sLen+n:Int)>9223372036854775807;omega
 have j:¬(Builtin.nextslicecap (sLen+n) sCap*i.bytes>2^48):=by have:=growslice_fits p u;omega
 have b:∀m(w:World),(askRoom m).run P w=.ok () w:=λm w=>by unfold askRoom;split<;>simp[mark,Sem.run]
 unfold Builtin.append_;simp only[ahF,afZ,ag0,abe,abF r,abF x,aaJ,sizeOf,typeInfo,run_program,hi,ach,aii,if_false,c,aiW,akk,acB v,f,false_and,j];have l:(choose (.appendCap (sLen+n) sCap el)).run P w=.ok (grownCap w (sLen+n) sCap el) w.drew:=by simp[Question.forced,grownCap]
 rw[l];simp[aaJ,b,g,t,zeroValue,abe,typeInfo,run_program,hi,q,ach];simp[newRow,newObj,Sem.run,World.alloc];congr 2;apply aiD;simp
def wW{sT xT ty el i kk l n}(s:P.underlying sT=E (.slice el))(x:P.underlying xT=E (.int kk))(hi:P.info? el=E i)(r:i.zero=E l)(h1:i.size=1)(o:i.bytes<=256)(y:0<n)(v:n<=2^38):
  (Builtin.append_ #[sT,xT] ty #[.slice Y 0 0,.int .i64 n]).run P w=
   .ok (.slice (E ⟨w.heap.size,0,Y⟩) (0+O n) (grownCap w (0+O n) 0 el)) (w.drew.alloc (.cells ((Builtin.zeroCells l.cells (O n)).toList++(Builtin.zeroCells l.cells (grownCap w (0+O n) 0 el-(0+O n))).toList).toArray el)):=by
 have q:=IntWalk.i64_in n (by omega);have c:¬n<0:=by omega
 have t:¬n*(i.bytes:Int)>2^48:=by
  have:n*(i.bytes:Int)<=2^38*256:=Int.mul_le_mul v (by omega) (by omega) (by decide);omega
 have d:¬(0+O n<=0):=by omega
 have b:¬((0+O n:Nat):Int)>IntKind.i64.max:=by show¬(0+O n:Int)>9223372036854775807;omega
 have g:¬(Builtin.nextslicecap (0+O n) 0*i.bytes>2^48):=by
  have p:0<0+O n:=by omega
  have u:(0+O n)*i.bytes<=140737488355328:=by
   have:(0+O n)*i.bytes<=2^38*256:=Nat.mul_le_mul (by omega) o
   omega
  have:=growslice_fits p u
  omega
 have a:∀m(w:World),(askRoom m).run P w=.ok () w:=λm w=>by unfold askRoom;split<;>simp[mark,Sem.run]
 have j:¬O n*i.size=0:=by rw[h1];omega
 unfold Builtin.append_
 have k:(choose (.appendCap (0+O n) 0 el)).run P w=.ok (grownCap w (0+O n) 0 el) w.drew:=by
  simp[Question.forced,grownCap]
 have f:(Builtin.firstCells i.size 0 (.slice Y 0 0)).run P w.drew=.ok ([]:List Value).toArray w.drew:=mI
 simp only[ahF,afZ,ag0,abe,abF s,abF x,aaJ,sizeOf,typeInfo,run_program,hi,ach,akk,asInt,asIntOf,q,acB c,acB t,acB d,b,false_and,if_false,g,k,a,f,Bool.not_true,aii,acB j,zeroValue,r]
 simp[newRow,newObj,Sem.run,World.alloc]
 congr 2
 apply aiD
 simp
def vp{sT xT ty el i kk}(b:P.underlying sT=E (.slice el))(c:P.underlying xT=E (.int kk))(hi:P.info? el=E i):
  (Builtin.append_ #[sT,xT] ty #[.slice Y 0 0,.int .i64 0]).run P w=.ok (.slice Y 0 0) w:=by
 have a:i64.wrap 0=0:=by decide
 unfold Builtin.append_;simp[abe,abF b,abF c,sizeOf,typeInfo,hi,asInt,asIntOf,a]
def qT{sT xT ty el i kk j base sLen sCap n w'}(m:P.underlying sT=E (.slice el))(p:P.underlying xT=E (.int kk))(hi:P.info? el=E i)(q:i.zero=E j)(h1:i.size=j.cells.size)(s:i.bytes<=256)(u:0<=n)(t:n<=2^38)(c:sLen+O n<=sCap)
  (d:(base=Y/\w'=w)\/∃a,base=E a/\(storeCells (a.add (sLen*i.size)) (Builtin.zeroCells j.cells (O n)).toList 0).run P w=.ok () w'):
  (Builtin.append_ #[sT,xT] ty #[.slice base sLen sCap,.int .i64 n]).run P w=.ok (.slice base (sLen+O n) sCap) w':=by
 have l:=IntWalk.i64_in n (by omega);have b:¬n<0:=by omega
 have o:¬n*(i.bytes:Int)>2^48:=by have:n*(i.bytes:Int)<=2^38*256:=Int.mul_le_mul t (by omega) (by omega) (by decide);omega
 have g:(Builtin.zeroCells j.cells (O n)).toList.length=O n*i.size:=by simp[Builtin.zeroCells,h1]
 unfold Builtin.append_;by_cases f:O n*i.size=0
 ·have r:=abJ.1 (by rw[g];exact f);rw[r] at d;simp only[ahF,afZ,ag0,abe,abF m,abF p,aaJ,sizeOf,typeInfo,run_program,hi,ach,akk,asInt,asIntOf,l,acB b,acB o,ae8 c,Bool.not_true,aii,if_false,ae8 f];rcases d with⟨rfl,rfl⟩|⟨a,rfl,k⟩
  ·simp
  ·simp[k]
 ·simp only[ahF,afZ,ag0,abe,abF m,abF p,aaJ,sizeOf,typeInfo,run_program,hi,ach,akk,asInt,asIntOf,l,acB b,acB o,ae8 c,Bool.not_true,aii,if_false,acB f,zeroValue,q];rcases d with⟨rfl,rfl⟩|⟨a,rfl,k⟩
  ·simp
  ·simp[k]
def qi{sT xT ty el i kk k base sLen sCap c n}(t:P.underlying sT=E (.slice el))(v:P.underlying xT=E (.int kk))(hi:P.info? el=E i)(s:i.zero=E k)(h1:i.size=k.cells.size)(q:i.bytes<=256)(F:0<=n)(D:sLen+O n<=2^38)
  (g:(Builtin.firstCells i.size sLen (.slice base sLen sCap)).run P w.drew=.ok c.toArray w.drew)(x:sCap<sLen+O n):
  (Builtin.append_ #[sT,xT] ty #[.slice base sLen sCap,.int .i64 n]).run P w=
   .ok (.slice (E ⟨w.heap.size,0,Y⟩) (sLen+O n) (grownCap w (sLen+O n) sCap el)) (w.drew.alloc (.cells (c++(Builtin.zeroCells k.cells (O n)).toList++(Builtin.zeroCells k.cells (grownCap w (sLen+O n) sCap el-(sLen+O n))).toList).toArray el)):=by
 have r:=IntWalk.i64_in n (by omega);have d:¬n<0:=by omega
 have u:¬n*(i.bytes:Int)>2^48:=by have:n*(i.bytes:Int)<=2^38*256:=Int.mul_le_mul (by omega) (by omega) (by omega) (by decide);omega
 have f:¬(sLen+O n<=sCap):=by omega
 have b:¬((sLen+O n:Nat):Int)>IntKind.i64.max:=by show¬(sLen+O n:Int)>9223372036854775807;omega
 have l:¬(Builtin.nextslicecap (sLen+O n) sCap*i.bytes>2^48):=by
  have z:(sLen+O n)*i.bytes<=140737488355328:=by have:=Nat.mul_le_mul D q;omega
  have:=growslice_fits x z;omega
 have a:∀m(w:World),(askRoom m).run P w=.ok () w:=λm w=>by unfold askRoom;split<;>simp[mark,Sem.run]
 have p:(Builtin.zeroCells k.cells (O n)).toList.length=O n*i.size:=by simp[Builtin.zeroCells,h1]
 have o:(choose (.appendCap (sLen+O n) sCap el)).run P w=.ok (grownCap w (sLen+O n) sCap el) w.drew:=by simp[Question.forced,grownCap]
 unfold Builtin.append_;by_cases j:O n*i.size=0
 ·have y:(Builtin.zeroCells k.cells (O n)).toList=[]:=abJ.1 (by rw[p];exact j);rw[y];simp only[ahF,afZ,ag0,abe,abF t,abF v,aaJ,sizeOf,typeInfo,run_program,hi,ach,akk,asInt,asIntOf,r,acB d,acB u,acB f,b,false_and,if_false,l,o,a,g,Bool.not_true,aii,ae8 j,zeroValue,s];simp[newRow,newObj,Sem.run,World.alloc];congr 2;apply aiD;simp
 ·simp only[ahF,afZ,ag0,abe,abF t,abF v,aaJ,sizeOf,typeInfo,run_program,hi,ach,akk,asInt,asIntOf,r,acB d,acB u,acB f,b,false_and,if_false,l,o,a,g,Bool.not_true,aii,acB j,zeroValue,s];simp[newRow,newObj,Sem.run,World.alloc];congr 2;apply aiD;simp
def qU{d f xs ys}(b:PR e d xs)(a:PR e f ys)(c:Db d=Z):PR e (p8 d f) (xs++ys):=by
 unfold p8;split
 ·rename_i k n p q m r;obtain⟨s,j,rfl⟩:=b;obtain⟨t,g,rfl⟩:=a;rw[PR] at j g;subst j g;simp[Db,aac] at c;split
  ·rename_i o;subst o;refine⟨[],rfl,?_⟩;rw[acj,acj,acj, <-jC];congr 1;rw[bV c];apply agh;intro i;by_cases l:i<n+m
   ·rw[lS _ l];by_cases u:i<n
    ·rw[afy (by omega),List.getD,afy (by omega),aaQ (by omega)];rfl
    ·rw[afE (by omega),c,lS _ (by omega),List.getD,List.getD,afE (by omega),c]
   ·rw[afs (by simp[bp];omega),afs (by rw[bp];omega)]
  ·exact⟨_,⟨[],rfl,rfl⟩,by simp⟩
 ·rw[PR] at b;subst b;exact a
 ·rw[PR] at a;subst a;simpa using b
 ·exact b.append a
def bM.Dl(R:bM B e h w){b ps ps' q w' c t}(hB:B.e.r b=Y)(hb:h[b]?=E (.b ps))
  (y:fD b (h.set b (.b ps'))=Z)(ac:w'.os=w.os)(U2:w'.tape=w.tape)(M:w'.output=w.output)(F:w.heap.size<=w'.heap.size)
  (d:∀n,n<w.heap.size->(∀p,e.r b=E p->p.n≠n)->w'.heap[n]?=w.heap[n]?)(hq:w.heap.size<=q.n\/∃p,e.r b=E p/\p.n=q.n)
  (G:w'.heap[q.n]?=E (.cells c t (0,0)))(N:q.base+q.size<=c.size)(al:aC ps'<=q.size)(qh:PR e ps' ((c.toList.drop q.base).take (aC ps'))):
  bM B (oU e b q) (h.set b (.b ps')) w':=by
 have D:=(aaR.1 hb).1;have ad:∀(i:Nat)l,(h.set ..)[i]?=E (.b l)->eY b l=I:=λi l a=>by
  have:=(aaB.1 y) (.b l) (ae9 a);simpa using this
 have U:∀{i:Nat}(L:Lp),(h.set ..)[i]?=E (.g (E L))->∀v,E v∈L.t->uses b v=I:=λ{i} L a v T=>by
  have:=(aaB.1 y) (.g (E L)) (ae9 a);have:=(aaB.1 this) (E v) T;simpa[lA] using this
 have up:=λi l S a g=>
  PR.cN (e:=e) (e':=oU ..) (λ_ _ h=>h) (aar _) l S (λj p J f=>by show(if j=b then E q else e.r j)=E p;rw[acB (λx=>by subst x;rw[ad i l a] at J;cases J)];exact f) g
 have ZS:∀p,e.r b=E p->B.w.heap.size<=p.n:=λp f=>by
  rcases R.cM b p f with g|g
  ·rw[hB] at g;cases g
  ·exact g
 have jy:∀(i:Nat)(p:Pl),i≠b->e.r i=E p->w'.heap[p.n]?=w.heap[p.n]? :=λi p a f=>d p.n (R.lt f) λp' an x=>a (R.inj i b p p' f an x.symm);have K:∀(i:Nat)(p:Pl),i≠b->e.r i=E p->p.n≠q.n:=λi p a f x=>by
  rcases hq with g|⟨p',k,m⟩
  ·have:=R.lt f;omega
  ·exact a (R.inj i b p p' f k (by omega))
 exact{
  os:=ac.trans R.os,tape:=U2.trans R.tape,output:=M.trans R.output
  size:=af3 R.size F
  inj:=λi i' p p' a af g=>by
   rcases fP a with⟨g0,k⟩|⟨k,ab⟩<;>rcases fP af with⟨W,m⟩|⟨m,ae⟩
   ·exact R.inj i i' p p' k m g
   ·subst ae;exact absurd g (K i p g0 k)
   ·subst ab;exact absurd g.symm (K i' p' W m)
   ·omega
  dom:=λi p a=>by
   rcases fP a with⟨_,g⟩|⟨g,_⟩
   ·simpa using R.dom i p g
   ·subst g;simpa using D
  gM:=λi p a=>by
   rcases fP a with⟨_,g⟩|⟨_,g⟩
   ·exact R.gM i p g
   ·subst g;show e.z p.n=Y;rcases hq with g|⟨p',k,m⟩
    ·cases Q:e.z p.n with
     |none=>rfl
     |some x=>have:=R.ZP Q;omega
    ·rw[<-m];exact R.gM b p' k
  gN:=λn cc tt fr Q=>by
   have V:e.z n=E (cc,tt,fr):=Q
   rw[d n (R.ZP V) λp f x=>by subst x;rw[R.gM b p f] at V;cases V]
   exact R.gN n cc tt fr Q
  bN:=R.bN,fU:=R.fU
  cM:=λi p a=>by
   rcases fP a with⟨_,g⟩|⟨_,g⟩
   ·exact R.cM i p g
   ·subst g
    rcases hq with g|⟨p',k,m⟩
    ·exact .inr (af3 R.size g)
    ·exact .inr (by have:=ZS p' k;omega)
  b6:=λi p a=>by
   show(if i=b then E q else e.r i)=E p
   rw[acB (λx=>by subst x;rw[hB] at a;cases a)];exact R.b6 i p a
  cE:=R.cE,n0:=R.n0,dK:=R.dK
  gr:=λi l a=>by
   have uI:=a
   by_cases s:b=i
   ·subst s
    rw[acg D] at a;cases a
    exact .inr ⟨q,_,fc,G,c,t,rfl,N,al,up b _ _ uI qh⟩
   ·rw[abI s] at a
    rcases R.gr i l a with⟨k,m⟩|⟨p,o,k,m,c',t',rfl,g3,g4,g5⟩
    ·exact .inl ⟨k,by show(if i=b then E q else e.r i)=Y;rw[acB (Ne.symm s)];exact m⟩
    ·exact .inr ⟨p,_,by show(if i=b then E q else e.r i)=E p;rw[acB (Ne.symm s)];exact k,by rw[jy i p (Ne.symm s) k];exact m,c',t',rfl,g3,g4,up i _ _ uI g5⟩
  gap:=λi g a=>by
   by_cases s:b=i
   ·subst s;rw[acg D] at a;cases a
   ·rw[abI s] at a
    refine⟨?_,(R.gap i g a).2.jy (λn o H=>?_) rfl λL hL v v' hm T=>VR.cN (e:=e) (e':=oU e b q) (λ_ _ h=>h) (aar _) v v' (λj p J f=>by
     show(if j=b then E q else e.r j)=E p
     rw[acB (λx=>by subst x;rw[U L (by rw[<-hL,abI s];exact a) v hm] at J;cases J)];exact f) T⟩
    ·show(if i=b then E q else e.r i)=Y
     rw[acB (Ne.symm s)];exact(R.gap i g a).1
    ·rw[d n (abE.1 H).1 λp f x=>by
      subst x
      have⟨c',t',h1,_⟩:=R.gu f
      rw[h1] at H;cases H]
     exact H
  yi:=R.yi,yb:=R.yb
  old:=λn H y qm=>by
   rw[d n (by have:=R.size;omega) λp f=>by have:=ZS p f;omega]
   exact R.old n H y qm
  lz:=λi p a=>by
   have⟨o,o',ho,am,ZQ⟩:=R.lz i p a
   exact⟨o,o',ho,by rw[jy i p (λx=>by subst x;rw[hB] at a;cases a) (R.b6 i p a)];exact am,ZQ⟩
  kr:=R.kr
  iT:=by simpa using R.iT
  g7:=λr hr=>by
   have:=R.g7 r hr
   rw[d r (abE.1 this.1).1 λp f x=>by
    subst x
    have⟨c',t',h1,_⟩:=R.gu f
    have h2:=this.1
    rw[h1] at h2;cases h2]
   exact this
  jG:=R.jG}
def bM.zero(R:bM B e h w){b ps ps'}(k:h[b]?=E (.b ps))(h1:PR e ps' []):bM B e (h.set b (.b ps')) w:=by
 have d:=(aaR.1 k).1;have j:aC ps'=0:=h1.length.symm;exact{
  os:=R.os,tape:=R.tape,output:=R.output,size:=R.size,inj:=R.inj,dom:=λi p a=>by simpa using R.dom i p a,gM:=R.gM,gN:=R.gN,bN:=R.bN,fU:=R.fU,cM:=R.cM,b6:=R.b6,cE:=R.cE,n0:=R.n0,dK:=R.dK
  gr:=λi l a=>by
   by_cases f:b=i
   ·subst f
    rw[acg d] at a;cases a
    cases n:e.r b with
    |none=>exact .inl ⟨j,rfl⟩
    |some p=>
     have⟨c,t,o,m,s,q⟩:=R.block n k
     exact .inr ⟨p,_,rfl,o,c,t,rfl,m,by omega,by rw[j,List.take_zero];exact h1⟩
   ·rw[abI f] at a;exact R.gr i l a
  gap:=λi g a=>by
   by_cases f:b=i
   ·subst f;rw[acg d] at a;cases a
   ·rw[abI f] at a;exact R.gap i g a
  yi:=R.yi,yb:=R.yb,old:=R.old,lz:=R.lz,kr:=R.kr,iT:=by simpa using R.iT,g7:=R.g7,jG:=R.jG}
structure c9(e e':cw)(lU:Option Nat):Prop where
 r:∀(i:Nat)(p:Pl),lU≠some i->e.r i=some p->e'.r i=some p
 z:∀n o,e.z n=some o->e'.z n=some o
 n0:e'.n0<=e.n0
 m:e'.m=e.m
def c9.refl e k:c9 e e k:=⟨λ_ _ _ h=>h,λ_ _ h=>h,aar _,rfl⟩
def c9.xK{e e'}(h:cw.Le e e')(a:e'.m=e.m) k:c9 e e' k:=⟨λi p _=>h.r i p,h.z,h.n0,a⟩
def c9.le{e e'}(h:c9 e e' Y):cw.Le e e':=⟨λi p=>h.r i p (by simp),h.z,h.n0⟩
def c9.zI{e' k}(a:c9 e e' k){t t'}(g:TR e t t'):TR e' (gS k t) t':=by cases k with
 |none=>exact g.mono a.le
 |some b=>exact g.lU a.z a.n0 λj p c=>a.r j p (by simp;exact λx=>c x.symm)
def dY(B:dj)(e:cw)(j:Nat)(r:m6)(b:Result Next):Prop:=
 ∃nx d a c,b=.ok nx d/\(nx=.value c\/(nx=.skip/\c=undef))/\VR a r.v c/\bM B a (cO r.h j r.new) d/\c9 e a r.lU
def qV{el z}(a:zw P el=E z):∃i b,P.info? el=E i/\i.size=z+1/\i.zero=E b/\b.cells.size=z+1/\i.bytes<=256:=by
 unfold zw at a;split at a
 ·rename_i o p n f g j;split at a
  ·rename_i l;simp[No,aac] at l;cases a;have⟨i,d,c⟩:=BK g;have⟨b,k,m⟩:=wT j;refine⟨i,b,d,c,?_,by omega,?_⟩
   ·simpa[gw,d] using k
   ·simp[d] at f;omega
  ·cases a
 ·cases a
def b8 h j:cO h j []=h:=by unfold cO;split<;>simp[c8]
def dG c n:(Builtin.zeroCells c n).toList.length=n*c.size:=by simp[Builtin.zeroCells]
def og{ps ys}(h:PR e ps ys)(a:oQ ps=Z):∀v∈ys,v.oneCell'=Z:=kF h a
def U3{z n g ys}(h:PR e [.aF z n g] ys)(o:((t8 n).all λi=>oQ (g i))=Z):∀v∈ys,v.oneCell'=Z:=λv p=>by
 have⟨r,s,c,l,d,a⟩:=h;rw[PR] at d;subst d;rw[acj] at a;subst a;obtain⟨j,b,rfl⟩:=List.getElem_of_mem p;have k:0<z:=by
  rcases Nat.eq_zero_or_pos z with q|q
  ·subst q;rw[Nat.mul_zero] at c;omega
  ·exact q
 have f:=Nat.div_lt_of_lt_mul (by rw[Nat.mul_comm, <-c];exact b)
 refine og (l (j/z) f) (aaB.1 o _ (aaI.2 f)) _ ?_
 have e1:j=j/z*z+j%z:=by have:=Nat.div_add_mod j z;rw[Nat.mul_comm] at this;exact this.symm
 have m:=Nat.mod_lt j k
 have:(((ys.drop (j/z*z)).take z)[j%z]?)=E ys[j]:=by
  rw[af1,ae8 m,afO, <-e1,aaQ b]
 exact ae9 this
theorem tX(R:bM B e h w){k j b z len cap m n ex pp g g' sT xT ty el i zv x' y'}(hk:∀i p,B.e.r i=some p->i<k)(Ln:k<=b)(U:i.size=z+1)(t7:zv.cells.size=z+1)
  (hx:VR e (.b9 b (z+1) len cap ex) x')(S:h[b]?=some (.b [.aF (z+1) n g]))(Bh:len<=n){C:List Value->Prop}(d:IY P w sT xT ty el i zv y' m C)(hC:∀ys,C ys->ys.length=m*(z+1)/\∀v∈ys,v.oneCell'=true)(kS:len+m<=2^38)
  (ab:fD b (h.set b (.b [.aF (z+1) (len+m) g']))=true)(D:∀xs ys,C ys->PR e [.aF (z+1) len g] xs->xs.length=len*(z+1)->PR e [.aF (z+1) (len+m) g'] (xs++ys)):
  dY B e j ⟨.b9 b (z+1) (len+m) (len+m) false,h.set b (.b [.aF (z+1) (len+m) g']),[],some b,pp⟩ ((do pure (.value (<-Builtin.append_ #[sT,xT] ty #[x',y'])):Sem Next).run P w):=by
 have hB:B.e.r b=none:=by
  cases hq:B.e.r b with
  |none=>rfl
  |some p=>have:=hk b p hq;omega
 have yf:dN h (.b9 b (z+1) len cap ex)=some ([.aF (z+1) len g],true):=by
  simp[dN,S,show Nat.beq (z+1) (z+1)=true from Nat.beq_refl _,Me Bh]
 have G:dF (z+1) (.b9 b (z+1) len cap ex)=true:=Nat.beq_refl _
 have⟨xs,Q,jD,_,aw⟩:=bI (P:=P) R yf rfl hx G
 have V:aC [SV.aF (z+1) (len+m) g']=(len+m)*(z+1):=by simp[aC,kf]
 have tV:∀(base:Option Addr)(f:Nat),x'=.slice base len f->f<len+m->dY B e j ⟨.b9 b (z+1) (len+m) (len+m) false,h.set ..,[],some b,pp⟩ ((do pure (.value (<-Builtin.append_ #[sT,xT] ty #[x',y'])):Sem Next).run P w):=λbase f ap an=>by
  subst ap
  have⟨Ej,IZ,sL,_,I0⟩:=bI (P:=P) (R.drawn (w.drawn+1)) yf (n:=len) rfl hx G
  have W:(Builtin.firstCells i.size len (.slice base len f)).run P w.drew=.ok Ej.toArray w.drew:=by
   have:=I0 len (aar _)
   rw[aaT (by omega), <-U] at this
   exact this
  have⟨ys,K,al⟩:=d.tV
  have T:=(hC ys K).1
  have s:=al base len f Ej W an kS
  have N:len+m<=grownCap w (len+m) f el:=by unfold grownCap;simp[Question.cut]
  have F:(Ej++ys++(Builtin.zeroCells zv.cells (grownCap w (len+m) f el-(len+m))).toList).length=grownCap w (len+m) f el*(z+1):=by
   simp only[abA,dG,t7,T,sL, <-ags];congr 1;omega
  refine⟨_,_,oU e b ⟨w.heap.size,0,grownCap w (len+m) f el*(z+1)⟩,_,(by simp only[abe,s,aaJ,ach];try rfl),.inl rfl,.inr ⟨_,grownCap w (len+m) f el,0,fc,rfl,λ_=>by simp,N,(λq=>by cases q),N,λ_=>by simp⟩,?_,⟨λi p hi H=>?_,λ_ _ h=>h,aar _,rfl⟩⟩
  ·rw[b8]
   refine R.Dl hB S ab rfl rfl rfl (by rw[aiR];exact Nat.le_succ _) (λn hn _=>?_) (.inl (aar _)) (heap_alloc_new _ _) (by rw[af8, <-F];exact aar _) (by rw[V];exact aeK _ N) ?_
   ·exact heap_alloc_old w.drew _ n hn
   ·simp only[agE]
    rw[afk (by rw[V,abA,sL,T, <-ags];exact aar _),aaT (by rw[V,abA,sL,T, <-ags];exact aar _)]
    exact D Ej ys K IZ sL
  ·show(if i=b then _ else e.r i)=some p
   rw[acB (λq=>hi (by rw[q]))];exact H
 have⟨ys,K,J⟩:=d.fit
 have⟨T,ae⟩:=hC ys K
 rcases hx with⟨rfl,rfl,a,rfl⟩|⟨p,o,a,wQ,rfl,Fw,ax,aG,ay,ao⟩
 ·by_cases h0:m=0
  ·subst h0
   have Ek:=abJ.1 (by rw[T];simp)
   subst Ek
   have s:=J a 0 0 w (aar _) (by cases a with|none=>exact .inl ⟨rfl,rfl⟩|some a=>exact .inr ⟨a,rfl,rfl⟩)
   refine⟨_,w,e,_,(by simp only[abe,s,aaJ,ach];try rfl),.inl rfl,.inl ⟨rfl,rfl,a,rfl⟩,?_,c9.refl _ _⟩
   rw[b8]
   have Bj:=abJ.1 (by rw[jD];simp)
   subst Bj
   exact R.zero S (D [] [] K Q (by simp))
  ·exact tV a 0 rfl (by omega)
 ·by_cases u:len+m<=o
  ·have⟨c,t,x,Pn,nR,qh⟩:=R.block wQ S
   by_cases L:o=0
   ·have Bc:len=0:=by omega
    have am:m=0:=by omega
    subst L Bc am
    have Ek:=abJ.1 (by rw[T];simp)
    subst Ek
    have s:=J (some ⟨p.n,a,none⟩) 0 0 w (aar _) (.inr ⟨_,rfl,rfl⟩)
    refine⟨_,w,e,_,(by simp only[abe,s,aaJ,ach];try rfl),.inl rfl,.inl ⟨rfl,rfl,_,rfl⟩,?_,c9.refl _ _⟩
    rw[b8]
    have Bj:=abJ.1 (by rw[jD];simp)
    subst Bj
    exact R.zero S (D [] [] K Q (by simp))
   ·have yE:=Fw L
    have Pp:=ao L
    have ac:(len+m)*(z+1)<=o*(z+1):=aeK _ u
    have af:(len+m)*(z+1)=len*(z+1)+m*(z+1):=ags _ _ _
    have ad:=run_storeCells_at P p.n (a+len*(z+1)) t ys 0 c w x (by omega) ae
    simp only[ajf] at ad
    have s:=J (some ⟨p.n,a,none⟩) len o _ u (.inr ⟨_,rfl,by rw[fX,U];exact ad⟩)
    have vq:xs=(c.toList.drop a).take (len*(z+1)):=by
     have h1:=aw len (aar _)
     rw[iD x (by omega),aaT (l:=xs) (by omega)] at h1
     have h2:((c.toList.drop a).take (len*(z+1))).toArray=xs.toArray:=(Result.ok.inj h1).1
     exact(ahV Array.toList h2).symm
    refine⟨_,_,oU e b ⟨p.n,a,o*(z+1)⟩,_,(by simp only[abe,s,aaJ,ach];try rfl),.inl rfl,.inr ⟨_,o,a,fc,rfl,λ_=>by simp,u,(λq=>by cases q),u,λ_=>by simp⟩,?_,⟨λi p hi H=>?_,λ_ _ h=>h,aar _,rfl⟩⟩
    ·rw[b8]
     refine R.Dl hB S ab rfl rfl rfl (by simp[World.setRow]) (λn hn ar=>setRow_other w p.n n _ (λq=>ar p wQ q.symm)) (.inr ⟨p,wQ,rfl⟩) (setRow_heap w p.n c _ t (0,0) x) (by simp;omega) (by rw[V];exact ac) ?_
     rw[V]
     have M:((c.toList.take (a+len*(z+1))++ys++c.toList.drop (a+len*(z+1)+ys.length)).drop a).take ((len+m)*(z+1))=xs++ys:=by
      rw[aeH,agj (by simp;omega),ahB,aic, <-vq, <-aeH,
       afk (by rw[abA];omega),aaT (by rw[abA];omega)]
     simp only[]
     rw[M]
     exact D xs ys K Q jD
    ·show(if i=b then _ else e.r i)=some _
     rw[acB (λq=>hi (by rw[q]))];exact H
  ·exact tV _ o rfl (by omega)
def zJ(R:bM B e h w){j b z len cap k n pp g M sT xT ty el i zv x' y'}(S:i.size=z+1)
  (hx:VR e (.b9 b (z+1) len cap Z) x')(K:h[b]?=E (.b [.aF (z+1) n g]))(Bh:len<=n){C}(d:IY P w sT xT ty el i zv y' k C)(hC:∀ys,C ys->A ys=k*(z+1)/\∀v∈ys,v.oneCell'=Z)(o:len+k<=cap)
  (s:∀xs ys,C ys->PR e [.aF (z+1) len g] xs->A xs=len*(z+1)->PR e [.aF (z+1) (len+k) M] (xs++ys)):
  dY B e j ⟨.b9 b (z+1) (len+k) cap Z,h.set b (.b [.aF (z+1) (len+k) M]),[],Y,pp⟩ ((do pure (.value (<-Builtin.append_ #[sT,xT] ty #[x',y'])):Sem Next).run P w):=by
 have yf:dN h (.b9 b (z+1) len cap Z)=E ([.aF (z+1) len g],Z):=by simp[dN,K,show Nat.beq (z+1) (z+1)=Z from Nat.beq_refl _,Me Bh]
 have F:dF (z+1) (.b9 b (z+1) len cap Z)=Z:=Nat.beq_refl _;have⟨xs,x,U,_,ab⟩:=bI (P:=P) R yf rfl hx F;have⟨ys,L,u⟩:=d.fit;have⟨N,H⟩:=hC ys L;rcases hx with⟨rfl,rfl,a,rfl⟩|⟨p,m,a,W,rfl,Fw,ac,T,ae,D⟩
 ·have h0:k=0:=by omega
  subst h0;have Ek:=abJ.1 (by rw[N];simp);subst Ek;have f:=u a 0 0 w (aar _) (by cases a with|none=>exact .inl ⟨rfl,rfl⟩|some a=>exact .inr ⟨a,rfl,rfl⟩);refine⟨_,w,e,_,(by simp[abe,f,aaJ,ach];try rfl),.inl rfl,.inl ⟨rfl,rfl,a,rfl⟩,?_,c9.refl _ _⟩;rw[b8];have V:=abJ.1 (by rw[U];simp);subst V;exact R.zero K (s [] [] L x (by simp))
 ·have yD:=T rfl;subst yD;have⟨c,t,q,Pn,nR,qh⟩:=R.block W K;by_cases y:m=0
  ·have Bc:len=0:=by omega
   have Q:k=0:=by omega
   subst y Bc Q;have Ek:=abJ.1 (by rw[N];simp);subst Ek;have f:=u (E ⟨p.n,a,Y⟩) 0 0 w (aar _) (.inr ⟨_,rfl,rfl⟩);refine⟨_,w,e,_,(by simp[abe,f,aaJ,ach];try rfl),.inl rfl,.inl ⟨rfl,rfl,_,rfl⟩,?_,c9.refl _ _⟩;rw[b8];have V:xs=[]:=abJ.1 (by rw[U];simp);subst V;exact R.zero K (s [] [] L x (by simp))
  ·have yE:=Fw y;have Pp:=D y;have ad:(len+k)*(z+1)<=m*(z+1):=aeK _ o;have r:(len+k)*(z+1)=len*(z+1)+k*(z+1):=ags _ _ _;have vq:xs=(c.toList.drop a).take (len*(z+1)):=by have h1:=ab len (aar _);rw[iD q (by omega),aaT (l:=xs) (by omega)] at h1;have h2:((c.toList.drop a).take (len*(z+1))).toArray=xs.toArray:=(Result.ok.inj h1).1;exact(ahV Array.toList h2).symm
   have J:aC [SV.aF (z+1) len g]=len*(z+1):=by simp[aC,kf]
   have q2:aC [SV.aF (z+1) (len+k) M]=(len+k)*(z+1):=by simp[aC,kf]
   have⟨w',G,R'⟩:=R.Ft (P:=P) (ps:=[SV.aF (z+1) len g]) W q Pn ys [SV.aF (z+1) (len+k) M] (by rw[J,N];omega) (by rw[J,q2,N];exact r) H (by rw[J, <-yE, <-vq];exact s xs ys L x U)
   rw[J, <-yE] at G;have f:=u (E ⟨p.n,a,Y⟩) len m _ o (.inr ⟨_,rfl,by rw[fX,S];exact G⟩);refine⟨_,w',e,_,(by simp[abe,f,aaJ,ach];try rfl),.inl rfl,.inr ⟨p,m,a,W,rfl,Fw,aar _,λ_=>rfl,o,D⟩,?_,c9.refl _ _⟩;rw[b8];exact R'
def yh(R:bM B e h w){j b z len cap f n pp g x sT xT ty el i H G y'}(L:i.size=z+1)(S:H.cells.size=z+1)(hj:nS h j 1)
  (W:VR e (.b9 b (z+1) len cap Z) G)(hb:h[b]?=E (.b [.aF (z+1) n g]))(Bh:len<=n){C:List Value->Prop}(c:IY P w sT xT ty el i H y' f C)(hC:∀ys,C ys->A ys=f*(z+1)/\∀v∈ys,v.oneCell'=Z)(m:cap<len+f)(kS:len+f<=2^38)
  (N:∀xs ys,C ys->PR e [.aF (z+1) len g] xs->A xs=len*(z+1)->PR e [.aF (z+1) (len+f) x] (xs++ys)):
  dY B e j ⟨.b9 j (z+1) (len+f) (len+f) I,h,[.b [.aF (z+1) (len+f) x]],Y,pp⟩ ((do pure (.value (<-Builtin.append_ #[sT,xT] ty #[G,y'])):Sem Next).run P w):=by
 have yf:dN h (.b9 b (z+1) len cap Z)=E ([.aF (z+1) len g],Z):=by simp[dN,hb,show Nat.beq (z+1) (z+1)=Z from Nat.beq_refl _,Me Bh]
 have s:dF (z+1) (.b9 b (z+1) len cap Z)=Z:=Nat.beq_refl _;have M:aC [SV.aF (z+1) (len+f) x]=(len+f)*(z+1):=by simp[aC,kf]
 have tV:∀(base:Option Addr)(d:Nat),G=.slice base len d->d<len+f->dY B e j ⟨.b9 j (z+1) (len+f) (len+f) I,h,[.b [.aF (z+1) (len+f) x]],Y,pp⟩ ((do pure (.value (<-Builtin.append_ #[sT,xT] ty #[G,y'])):Sem Next).run P w):=λbase d U m=>by
  subst U;have⟨D,IZ,J,_,I0⟩:=bI (P:=P) (R.drawn (w.drawn+1)) yf rfl W s;have y:(Builtin.firstCells i.size len (.slice base len d)).run P w.drew=.ok D.toArray w.drew:=by have:=I0 len (aar _);rw[aaT (by omega), <-L] at this;exact this
  have⟨ys,I1,K⟩:=c.tV;have T:=(hC ys I1).1;have u:=K base len d D y m kS;have o:len+f<=grownCap w (len+f) d el:=by unfold grownCap;simp[Question.cut]
  have k:A (D++ys++(Builtin.zeroCells H.cells (grownCap w (len+f) d el-(len+f))).toList)=grownCap w (len+f) d el*(z+1):=by simp only[abA,dG,S,T,J, <-ags];congr 1;omega
  have R2:=(R.drawn (w.drawn+1)).make (t:=el) (ps:=[.aF (z+1) (len+f) x]) (ys:=D++ys++(Builtin.zeroCells H.cells (grownCap w (len+f) d el-(len+f))).toList) hj
   (by rw[afk (by rw[M,abA,J,T, <-ags];exact aar _),aaT (by rw[M,abA,J,T, <-ags];exact aar _)];exact N D ys I1 IZ J)
   (by rw[k,M];exact aeK _ o)
  have r:=R.cj (j:=j) (by rcases hj with g|g;exact .inl g;exact .inr (by simpa using g 0 (by simp)));refine⟨_,_,_,_,(by simp[abe,u,aaJ,ach];try rfl),.inl rfl,.inr ⟨_,grownCap w (len+f) d el,0,fc,rfl,λ_=>by simp,o,(λq=>by cases q),o,λ_=>?_⟩,R2,c9.xK (kG r) rfl _⟩;rw[k];exact aar _
 rcases W with⟨rfl,rfl,a,rfl⟩|⟨p,F,a,wQ,rfl,Fw,V,Q,ac,ab⟩
 ·exact tV a 0 rfl (by omega)
 ·have yD:=Q rfl;subst yD;exact tV _ F rfl m
def r7{z n m g b xs ys}(k:PR e [.aF z n g] xs)(r:A xs=n*z)(q:A ys=m*z)(h1:∀i,i<n->PR ⟨λ_=>Y,e.z,e.n0,[],λ_=>Y⟩ (g i) ((xs.drop (i*z)).take z)->PR ⟨λ_=>Y,e.z,e.n0,[],λ_=>Y⟩ (b i) ((xs.drop (i*z)).take z))
  (h2:∀i,i<m->PR ⟨λ_=>Y,e.z,e.n0,[],λ_=>Y⟩ (b (n+i)) ((ys.drop (i*z)).take z)):PR e [.aF z (n+m) b] (xs++ys):=by
 have⟨o,s,p,f,d,c⟩:=k;rw[PR] at d;subst d;rw[acj] at c;subst c;refine⟨xs++ys,[],by rw[abA,ags];omega,λi t=>?_,rfl,(acj _).symm⟩;by_cases a:i<n
 ·have l:i*z+z<=n*z:=by have:=aeK z (Nat.succ_le_of_lt a);rw[Nat.succ_mul] at this;exact this
  rw[agj (by omega),afk (by rw[afj];omega)];exact h1 i a (f i a)
 ·obtain⟨j,rfl⟩:∃j,i=n+j:=⟨i-n,by omega⟩;have:(n+j)*z=A xs+j*z:=by rw[ags];omega
  rw[this,List.drop_append,ahW (by omega),List.nil_append,aic];exact h2 j (by omega)
def dY.val{j r u res}(g:dY B e j r res)(m:∀e v,VR e r.v v->VR e u v):dY B e j {r with v:=u} res:=by have⟨nx,i,d,l,f,c,b,a,k⟩:=g;exact⟨nx,i,d,l,f,c,m _ _ b,a,k⟩
def Dm{cy j z ny e v}(h:VR e (.sl j 0 0 z ny ny I Z) v):VR e (abu cy j z ny) v:=by
 unfold abu;split
 ·exact VR.wV h
 ·exact h
def Lo{α:Type}(l:List α):∀m i,i<m->(((t9 m l).flatten).drop (i*A l)).take (A l)=l
 |0,i,h=>by omega
 |m+1,0,_=>by simp[List.replicate_succ]
 |m+1,i+1,h=>by rw[List.replicate_succ,List.flatten_cons,Nat.succ_mul,Nat.add_comm,List.drop_append,ahW (by omega),List.nil_append,aic];exact Lo l m i (by omega)
theorem Bk(R:bM B e h w){k j:Nat}{eZ:Bool}{sT xT ty:TypeId}{x y:SV}{x' y':Value}{r:m6}(Q:yC P k h j eZ sT xT x y=some r)(hp:r.p=true)(hj:nS h j r.new.length)
  (hk:∀i p,B.e.r i=some p->i<k)(hx:VR e x x')(hy:VR e y y'):dY B e j r ((do pure (.value (<-Builtin.append_ #[sT,xT] ty #[x',y'])):Sem Next).run P w):=by
 unfold yC at Q
 split at Q
 ·
  rename_i el kk ht hu
  unfold Dc at Q
  split at Q
  rotate_left
  ·rename_i b z' s cap ex m z hki hok
   obtain⟨i,zv,V,N,hz,ab,ac⟩:=qV hok
   split at Q
   ·rename_i zz n g zs hb hzS
    split at Q
    ·rename_i hc
     simp only[No,aac] at hc
     obtain⟨⟨⟨⟨⟨Ln,rfl⟩,rfl⟩,Pq⟩,mX⟩,hno⟩:=hc
     cases Q
     simp only[No,aac] at hp
     obtain⟨⟨Bh,hm0⟩,kS⟩:=hp
     obtain rfl:y'=.int .i64 m:=hy
     obtain⟨zv',hzv,hzp⟩:=jo (P:=P) (e:=e) hzS
     obtain rfl:zv=zv':=by simp[gw,V,hz] at hzv;exact hzv
     have hlz:zv.cells.toList.length=z+1:=by simpa using ab
     have hzc:(Builtin.zeroCells zv.cells m.toNat).toList=(t9 m.toNat zv.cells.toList).flatten:=IU zv.cells (by omega) m.toNat
     have hone:∀v∈(Builtin.zeroCells zv.cells m.toNat).toList,v.oneCell'=true:=λv hv=>by
      rw[hzc] at hv
      obtain⟨l,hl,hvl⟩:=List.mem_flatten.1 hv
      rw[List.eq_of_mem_replicate hl] at hvl
      exact og hzp Pq v hvl
     have f:IY P w sT xT ty el i zv (.int .i64 m) m.toNat (· =(Builtin.zeroCells zv.cells m.toNat).toList):={
      fit:=⟨_,rfl,λbase sLen sCap w' h1 h2=>qT ht hu V hz (by omega) ac hm0 (by omega) h1 h2⟩
      tV:=⟨_,rfl,λbase sLen sCap olds h1 h2 h3=>qi ht hu V hz (by omega) ac hm0 h3 h1 h2⟩}
     have hzl:(Builtin.zeroCells zv.cells m.toNat).toList.length=m.toNat*(z+1):=by rw[dG,ab]
     refine tX (P:=P) R hk (aeN Ln) N ab hx hb Bh f (λys J=>by subst J;exact⟨hzl,hone⟩) kS hno λxs ys J hxs jD=>?_
     subst J
     refine r7 hxs jD hzl (λi V g1=>?_) λi V=>?_
     ·rw[agO (show i+1<=s by omega)]
      exact oc g1
     ·rw[show Nat.ble (s+i+1) s=false from by
       cases hb:Nat.ble (s+i+1) s with
       |false=>rfl
       |true=>have:=aeN hb;omega]
      refine oe ?_
      rw[hzc, <-hlz,Lo _ _ _ V]
      exact hzp.closed mX
    ·cases Q
   ·cases Q
  ·cases Q
  ·rename_i n ki hki hok
   obtain⟨i,zv,V,N,hz,ab,ac⟩:=qV hok
   simp only[Mf] at Q
   subst Q
   simp only[No,aac] at hp
   obtain rfl:x'=.slice none 0 0:=hx
   obtain rfl:y'=.int .i64 n:=hy
   by_cases h0:n=0
   ·subst h0
    exact⟨_,w,e,_,(by simp only[abe,vp ht hu V,aaJ,ach];try rfl),.inl rfl,.inl ⟨rfl,rfl,none,rfl⟩,R.nothing (by simpa using hj) rfl,c9.refl _ _⟩
   ·have H:=wW (w:=w) (ty:=ty) ht hu V hz (by omega) ac (by omega) hp.2
    have hfree:=R.cj (j:=j) (by rcases hj with g|g;exact .inl g;exact .inr (by simpa using g 0 (by simp)))
    obtain⟨zs,hzS⟩:∃zs,nk P el=some zs:=by
     unfold zw at hok
     split at hok
     ·rename_i zs _ _ q;exact⟨_,q⟩
     ·cases hok
    have F:=zD (e:=e) (n:=n.toNat) hzS (z:=zv) (by simp[gw,V,hz]) (by omega) (ps:=[.af ki n.toNat (t9 n.toNat 0)]) (by rw[hki])
    have jX:(Builtin.zeroCells zv.cells n.toNat).toList.length=n.toNat:=by rw[dG,ab];omega
    have hge:0+n.toNat<=grownCap w (0+n.toNat) 0 el:=by unfold grownCap;simp[Question.cut]
    have hps:aC [SV.af ki n.toNat (t9 n.toNat 0)]=n.toNat:=by simp[aC,kf]
    have R2:=(R.drawn (w.drawn+1)).make (j:=j) (t:=el) (ps:=[.af ki n.toNat (t9 n.toNat 0)]) (ys:=(Builtin.zeroCells zv.cells n.toNat).toList++(Builtin.zeroCells zv.cells (grownCap w (0+n.toNat) 0 el-(0+n.toNat))).toList) (by simpa using hj)
     (by rw[hps,afk (by omega),aaT (by omega)];exact F)
     (by rw[hps,abA,jX];omega)
    refine⟨_,_,_,_,(by simp only[abe,H,aaJ,ach];try rfl),.inl rfl,.inr ⟨_,grownCap w (0+n.toNat) 0 el,0,fc,by rw[af8],λ_=>by simp,by omega,(λq=>by cases q),by omega,λ_=>?_⟩,R2,c9.xK (kG hfree) rfl _⟩
    show 0+0*1+grownCap w (0+n.toNat) 0 el*1<=_
    rw[abA,jX,dG,ab]
    dsimp only
    omega
 ·cases Q
 ·rename_i el d hni ht hu
  have hd:∀k,d≠.int k:=λk q=>hni k (by rw[q])
  split at Q
  ·rename_i z cy py K hok zK oY
   obtain⟨i,zv,V,N,hz,ab,ac⟩:=qV hok
   have key:∀(a:Option Addr)(pp:Bool),nS h j 1->x'=.slice a 0 0->py=true->dF (z+1) y=true->K<=2^38->
     dY B e j ⟨.sl j 0 0 (z+1) K K false true,h,[.b cy],none,pp⟩ ((do pure (.value (<-Builtin.append_ #[sT,xT] ty #[x',y'])):Sem Next).run P w):=λa pp hj hx' Pr F kS=>by
    subst hx' Pr
    obtain⟨ys,J,jY,G,hf⟩:=bI (P:=P) R zK oY hy F
    obtain⟨BO,vr,oZ,Fx,Lq⟩:=bI (P:=P) (R.drawn (w.drawn+1)) zK oY hy F
    by_cases h0:K=0
    ·subst h0
     have tW:ys=[]:=abJ.1 (by rw[jY];simp)
     subst tW
     have H:=cP (w:=w) (w':=w) (ty:=ty) (base:=a) (sLen:=0) (sCap:=0) (cM:=[]) ht hu hd V G (by have:=hf 0 (aar _);rw[<-N] at this;simpa using this) (aar _) (by cases a with|none=>exact .inl ⟨rfl,rfl⟩|some a=>exact .inr ⟨a,rfl,rfl⟩)
     refine⟨_,w,e,_,(by simp only[abe,H,aaJ,ach];try rfl),.inl rfl,.inl ⟨rfl,rfl,a,rfl⟩,R.nothing (by simpa using hj) J.length.symm,c9.refl _ _⟩
    ·have hold:(Builtin.firstCells i.size 0 (.slice a 0 0)).run P w.drew=.ok ([]:List Value).toArray w.drew:=mI
     have U:(Builtin.firstCells i.size K y').run P w.drew=.ok BO.toArray w.drew:=by
      have:=Lq K (aar _)
      rw[<-N] at this oZ
      rw[aaT (by omega)] at this
      exact this
     have U4:(0+K)*i.bytes<=140737488355328:=by
      have:K*i.bytes<=2^38*256:=Nat.mul_le_mul kS ac
      rw[af8];omega
     have H:=fe (w:=w) (ty:=ty) ht hu hd V hz G hold U (by omega) (by omega) U4
     have W:([]++BO++(Builtin.zeroCells zv.cells (grownCap w (0+K) 0 el-(0+K))).toList).length=K*(z+1)+(grownCap w (0+K) 0 el-(0+K))*(z+1):=by
      simp only[List.nil_append,abA,dG,ab,oZ]
     have hge:0+K<=grownCap w (0+K) 0 el:=by unfold grownCap;simp[Question.cut]
     have hmul:K*(z+1)+(grownCap w (0+K) 0 el-(0+K))*(z+1)=grownCap w (0+K) 0 el*(z+1):=by rw[<-ags];congr 1;omega
     have R2:=(R.drawn (w.drawn+1)).make (j:=j) (t:=el) (ps:=cy) (ys:=[]++BO++(Builtin.zeroCells zv.cells (grownCap w (0+K) 0 el-(0+K))).toList) (by simpa using hj)
      (by rw[List.nil_append,afk (by rw[vr.length];exact aar _),aaT (by rw[vr.length];exact aar _)];exact vr)
      (by rw[W, <-vr.length,oZ];omega)
     have hfree:=R.cj (j:=j) (by rcases hj with g|g;exact .inl g;exact .inr (by simpa using g 0 (by simp)))
     refine⟨_,_,_,_,(by simp only[abe,H,aaJ,ach];try rfl),.inl rfl,.inr ⟨_,grownCap w (0+K) 0 el,0,fc,by rw[af8],λ_=>by simp,by omega,(λq=>by cases q),by omega,λ_=>?_⟩,R2,c9.xK (kG hfree) rfl _⟩
     show 0+0*(z+1)+grownCap w (0+K) 0 el*(z+1)<=_
     rw[W,hmul];simp
   split at Q
   ·
    cases Q
    simp only[av,aac] at hp
    rw[VR] at hx
    exact(key none _ hj hx hp.1.1 hp.1.2 hp.2).val λe v h=>Dm h
   ·rename_i b o ix z' s cap ex wh
    split at Q
    ·
     rename_i hem
     cases Q
     simp only[av,aac] at hp
     have ajo:ex=true/\cap=0:=by
      unfold UL at hem
      split at hem
      ·cases hem
      ·split at hem
       ·exact⟨rfl,acr hem⟩
       ·cases hem
     obtain⟨rfl,rfl⟩:=ajo
     rcases hx with⟨_,_,a,rfl⟩|⟨p,M,a,_,rfl,_,_,hex,hlc,_⟩
     ·exact key a _ hj rfl hp.1.1 hp.1.2 hp.2
     ·obtain rfl:=hex rfl
      obtain rfl:s=0:=by omega
      exact key _ _ hj rfl hp.1.1 hp.1.2 hp.2
    split at Q
    ·
     split at Q
     ·rename_i ki mm U5 hE0
      obtain⟨⟨h1,q⟩,hw,rfl⟩:=aaC.1 Q
      simp only[av,aac] at hp
      obtain⟨⟨⟨rfl,F⟩,hfit⟩,rfl⟩:=hp
      obtain⟨ys,J,jY,G,hf⟩:=bI (P:=P) R zK oY hy F
      rw[ajC] at jY
      obtain⟨us,kD,oh⟩:=J
      rw[PR] at kD;subst kD
      rw[acj] at oh
      have aAb:∀n,n<=K->n<=U5.length->bB ki (U5.take n)=ys.take n:=λn hn hn2=>by
       rw[oh, <-dW]
       congr 1
       apply agh
       intro j
       by_cases hj:j<n
       ·have hmm:j<mm:=by
         have:=ahV List.length oh
         rw[jY,aQ,bp] at this;omega
        rw[afY hj,afY hj,lS _ hmm,List.getD,aaQ (by omega)];rfl
       ·rw[af1,acB hj,af1,acB hj]
      rcases hx with⟨rfl,rfl,a,rfl⟩|⟨p,M,a,wQ,rfl,Fw,hcap,hex,hlc,hft⟩
      ·have h0:K=0:=by omega
       subst h0
       have H:=cP (w:=w) (w':=w) (ty:=ty) (base:=a) (sLen:=0) (sCap:=0) (cM:=[]) ht hu hd V G (by have:=hf 0 (aar _);rw[N];simpa using this) (aar _) (by cases a with|none=>exact .inl ⟨rfl,rfl⟩|some a=>exact .inr ⟨a,rfl,rfl⟩)
       refine⟨_,w,e,_,(by simp only[abe,H,aaJ,ach];try rfl),.inl rfl,.inl ⟨rfl,rfl,a,rfl⟩,?_,c9.refl _ _⟩
       rw[b8]
       exact nv R hw
      ·obtain⟨w',hst,R'⟩:=vo (P:=P) R hw wQ
       have aAc:K<=U5.length:=by
        obtain⟨_,_,_,_,_,_,_,_,_,_,_,h⟩:=lV hw;exact h
       by_cases h0:K=0
       ·subst h0
        have H:=cP (w:=w) (w':=w) (ty:=ty) (base:=some ⟨p.n,a,none⟩) (sLen:=s) (sCap:=M) (cM:=[]) ht hu hd V G (by have:=hf 0 (aar _);rw[N];simpa using this) (by omega) (.inr ⟨_,rfl,rfl⟩)
        refine⟨_,w,e,_,(by simp only[abe,H,aaJ,ach];try rfl),.inl rfl,.inr ⟨p,M,a,wQ,rfl,Fw,hcap,hex,by omega,hft⟩,?_,c9.refl _ _⟩
        rw[b8]
        exact nv R hw
       ·have yE:=Fw (by omega)
        have ajp:(⟨p.n,a,none⟩:Addr).add (s*i.size)=⟨p.n,p.base+(o+(ix+s)),none⟩:=by rw[fX,N,yE];congr 1;omega
        have H:=cP (w:=w) (w':=w') (ty:=ty) (base:=some ⟨p.n,a,none⟩) (sLen:=s) (sCap:=M) (cM:=ys.take (K*1)) ht hu hd V G (by rw[N];exact hf K (aar _)) (by omega)
         (.inr ⟨_,rfl,by rw[ajp,ajC, <-aAb K (aar _) aAc];exact hst⟩)
        refine⟨_,w',e,_,(by simp only[abe,H,aaJ,ach];try rfl),.inl rfl,.inr ⟨p,M,a,wQ,rfl,Fw,hcap,hex,by omega,hft⟩,?_,c9.refl _ _⟩
        rw[b8]
        exact R'
     ·rename_i ki mm U5 hE0
      split at Q
      case h_2=>cases Q
      obtain⟨⟨h1,q⟩,hw,rfl⟩:=aaC.1 Q
      simp only[av,aac] at hp
      obtain⟨⟨⟨rfl,F⟩,hfit⟩,rfl⟩:=hp
      unfold arV at hw
      split at hw
      case h_2=>cases hw
      rename_i k' m xs0 hb
      split at hw
      case isFalse=>cases hw
      rename_i hkk
      subst hkk
      simp only[Mf,aad,No,aac] at hw
      obtain⟨rfl,⟨jD,hlm⟩,ajr⟩:=hw
      subst hlm
      obtain⟨ys,J,jY,G,hf⟩:=bI (P:=P) R zK oY hy F
      rw[ajC] at jY
      obtain⟨us,kD,oh⟩:=J
      rw[PR] at kD;subst kD
      rw[acj] at oh
      have hmm:mm=K:=by
       have:=ahV List.length oh
       rw[jY,aQ,bp] at this;omega
      subst hmm
      rw[bV ajr] at oh
      have hff:(Builtin.firstCells i.size mm y').run P w=.ok ys.toArray w:=by
       have:=hf mm (aar _)
       rw[aaT (by omega)] at this
       rw[N];exact this
      have nR:aC [SV.af k' s xs0]=s:=by simp[aC,kf]
      have hone:∀v∈ys,v.oneCell'=true:=λv hv=>by
       rw[oh] at hv
       obtain⟨n,_,rfl⟩:=ajj.1 hv
       rfl
      rcases hx with⟨rfl,rfl,a,rfl⟩|⟨p,M,a,wQ,rfl,Fw,hcap,hex,hlc,hft⟩
      ·have h0:mm=0:=by omega
       subst h0
       have Ek:ys=[]:=abJ.1 (by omega)
       subst Ek
       have H:=cP (w:=w) (w':=w) (ty:=ty) (base:=a) (sLen:=0) (sCap:=0) (cM:=[]) ht hu hd V G hff (aar _) (by cases a with|none=>exact .inl ⟨rfl,rfl⟩|some a=>exact .inr ⟨a,rfl,rfl⟩)
       refine⟨_,w,e,_,(by simp only[abe,H,aaJ,ach];try rfl),.inl rfl,.inl ⟨rfl,rfl,a,rfl⟩,?_,c9.refl _ _⟩
       rw[b8]
       have Bj:xs0=[]:=abJ.1 jD
       have hy0:U5=[]:=abJ.1 ajr
       subst Bj hy0
       exact R.bR hb (λ_ g=>g) rfl
      ·obtain⟨c,t,hcell,Pn,aD1,qh⟩:=R.block wQ hb
       by_cases hc0:M=0
       ·have Bc:s=0:=by omega
        have h0:mm=0:=by omega
        subst hc0 Bc h0
        have Ek:ys=[]:=abJ.1 (by omega)
        subst Ek
        have H:=cP (w:=w) (w':=w) (ty:=ty) (base:=some ⟨p.n,a,none⟩) (sLen:=0) (sCap:=0) (cM:=[]) ht hu hd V G hff (aar _) (.inr ⟨_,rfl,rfl⟩)
        refine⟨_,w,e,_,(by simp only[abe,H,aaJ,ach];try rfl),.inl rfl,.inl ⟨rfl,by omega,_,rfl⟩,?_,c9.refl _ _⟩
        rw[b8]
        have Bj:xs0=[]:=abJ.1 jD
        have hy0:U5=[]:=abJ.1 ajr
        subst Bj hy0
        exact R.bR hb (λ_ g=>g) rfl
       ·have yE:=Fw hc0
        have Pp:=hft hc0
        obtain⟨zs,hzn,hpe⟩:=qh
        rw[PR] at hzn;subst hzn
        rw[acj,bV jD] at hpe
        have U:aC [SV.af k' (s+mm) (xs0++U5)]=s+mm:=by simp[aC,kf]
        obtain⟨w',hst,R'⟩:=R.Ft (P:=P) (ps:=[SV.af k' s xs0]) wQ hcell Pn ys [SV.af k' (s+mm) (xs0++U5)] (by rw[nR];omega) (by rw[U,nR];omega) hone
         ⟨[],rfl,by rw[hpe,oh,bV (by rw[abA];omega),jC,acj]⟩
        have ajp:(⟨p.n,a,none⟩:Addr).add (s*i.size)=⟨p.n,p.base+aC [SV.af k' s xs0],none⟩:=by rw[fX,N,yE,nR];congr 1;omega
        have H:=cP (w:=w) (w':=w') (ty:=ty) (base:=some ⟨p.n,a,none⟩) (sLen:=s) (sCap:=M) (cM:=ys) ht hu hd V G hff (by omega) (.inr ⟨_,rfl,by rw[ajp];exact hst⟩)
        refine⟨_,w',e,_,(by simp only[abe,H,aaJ,ach];try rfl),.inl rfl,.inr ⟨p,M,a,wQ,rfl,Fw,hcap,hex,by omega,hft⟩,?_,c9.refl _ _⟩
        rw[b8]
        exact R'
     ·cases Q
    ·
     split at Q
     ·rename_i cx px yf
      split at Q
      ·rename_i hc
       simp only[No,aac] at hc
       obtain⟨⟨⟨Ln,rfl⟩,aAe⟩,hno⟩:=hc
       cases Q
       simp only[av,aac] at hp
       obtain⟨⟨⟨⟨rfl,rfl⟩,hlx⟩,F⟩,kS⟩:=hp
       have hB:B.e.r b=none:=by
        cases hq:B.e.r b with
        |none=>rfl
        |some p=>have:=hk b p hq;have:=aeN Ln;omega
       obtain⟨ps,hb⟩:∃ps,h[b]?=some (.b ps):=by
        unfold dN at yf
        simp only at yf
        split at yf
        ·rename_i ps hps;exact⟨ps,hps⟩
        ·cases yf
       obtain⟨xs,hxs,jD,aD3,hfx⟩:=bI (P:=P) (z:=z+1) R yf (n:=s) rfl hx (by simp[dF])
       obtain⟨ys,J,jY,G,hf⟩:=bI (P:=P) R zK oY hy F
       have Lr:=qU hxs J hlx
       have yg:aC (p8 cx cy)=(s+K)*(z+1):=by
        have:=Lr.length
        rw[abA,jD,jY, <-ags] at this;exact this.symm
       have tV:∀(base:Option Addr)(sCap:Nat),x'=.slice base s sCap->sCap<s+K->dY B e j ⟨.sl b 0 0 (z+1) (s+K) (s+K) false true,h.set b (.b (p8 cx cy)),[],some b,true⟩ ((do pure (.value (<-Builtin.append_ #[sT,xT] ty #[x',y'])):Sem Next).run P w):=λbase sCap hx' hlt=>by
        subst hx'
        obtain⟨Ej,IZ,sL,_,I0⟩:=bI (P:=P) (z:=z+1) (R.drawn (w.drawn+1)) yf (n:=s) rfl hx (by simp[dF])
        obtain⟨BO,vr,oZ,Fx,Lq⟩:=bI (P:=P) (R.drawn (w.drawn+1)) zK oY hy F
        have hold:(Builtin.firstCells i.size s (.slice base s sCap)).run P w.drew=.ok Ej.toArray w.drew:=by
         have:=I0 s (aar _)
         rw[aaT (by omega), <-N] at this
         exact this
        have U:(Builtin.firstCells i.size K y').run P w.drew=.ok BO.toArray w.drew:=by
         have:=Lq K (aar _)
         rw[aaT (by omega), <-N] at this
         exact this
        have U4:(s+K)*i.bytes<=140737488355328:=by
         have:(s+K)*i.bytes<=2^38*256:=Nat.mul_le_mul kS ac
         omega
        have H:=fe (w:=w) (ty:=ty) ht hu hd V hz G hold U hlt (by omega) U4
        have hge:s+K<=grownCap w (s+K) sCap el:=by unfold grownCap;simp[Question.cut]
        have W:(Ej++BO++(Builtin.zeroCells zv.cells (grownCap w (s+K) sCap el-(s+K))).toList).length=grownCap w (s+K) sCap el*(z+1):=by
         simp only[abA,dG,ab,oZ,sL, <-ags];congr 1;omega
        have Dn:=qU IZ vr hlx
        refine⟨_,_,oU e b ⟨w.heap.size,0,grownCap w (s+K) sCap el*(z+1)⟩,_,(by simp only[abe,H,aaJ,ach];try rfl),.inl rfl,.inr ⟨_,grownCap w (s+K) sCap el,0,fc,rfl,λ_=>by simp,hge,(λq=>by cases q),hge,λ_=>by simp⟩,?_,⟨λi p V hpi=>?_,λ_ _ h=>h,aar _,rfl⟩⟩
        ·rw[b8]
         refine R.Dl hB hb hno rfl rfl rfl (by rw[aiR];exact Nat.le_succ _) (λn hn _=>?_) (.inl (aar _)) (heap_alloc_new _ _) (by rw[af8, <-W];exact aar _) (by rw[yg];exact aeK _ hge) ?_
         ·exact heap_alloc_old w.drew _ n hn
         ·simp only[agE]
          rw[afk (by rw[yg,abA,sL,oZ, <-ags];exact aar _),aaT (by rw[yg,abA,sL,oZ, <-ags];exact aar _)]
          exact Dn
        ·show(if i=b then _ else e.r i)=some p
         rw[acB (λq=>V (by rw[q]))];exact hpi
       rcases hx with⟨rfl,rfl,a,rfl⟩|⟨p,M,a,wQ,rfl,Fw,hcap,hex,hlc,hft⟩
       ·by_cases h0:K=0
        ·subst h0
         have H:=cP (w:=w) (w':=w) (ty:=ty) (base:=a) (sLen:=0) (sCap:=0) (cM:=[]) ht hu hd V G (by have:=hf 0 (aar _);rw[N];simpa using this) (aar _) (by cases a with|none=>exact .inl ⟨rfl,rfl⟩|some a=>exact .inr ⟨a,rfl,rfl⟩)
         refine⟨_,w,e,_,(by simp only[abe,H,aaJ,ach];try rfl),.inl rfl,.inl ⟨rfl,rfl,a,rfl⟩,?_,c9.refl _ _⟩
         rw[b8]
         have Bj:xs=[]:=abJ.1 (by rw[jD];simp)
         have Ek:ys=[]:=abJ.1 (by rw[jY];simp)
         subst Bj Ek
         exact R.zero hb Lr
        ·exact tV a 0 rfl (by omega)
       ·by_cases hroom:s+K<=M
        ·have hoff:M≠0\/(s=0/\K=0):=by omega
         obtain⟨c,t,hcell,Pn,nR,qh⟩:=R.block wQ hb
         by_cases hc0:M=0
         ·have Bc:s=0:=by omega
          have hn0:K=0:=by omega
          subst hc0 Bc hn0
          have H:=cP (w:=w) (w':=w) (ty:=ty) (base:=some ⟨p.n,a,none⟩) (sLen:=0) (sCap:=0) (cM:=[]) ht hu hd V G (by have:=hf 0 (aar _);rw[N];simpa using this) (aar _) (.inr ⟨_,rfl,rfl⟩)
          refine⟨_,w,e,_,(by simp only[abe,H,aaJ,ach];try rfl),.inl rfl,.inl ⟨rfl,rfl,_,rfl⟩,?_,c9.refl _ _⟩
          rw[b8]
          have Bj:xs=[]:=abJ.1 (by rw[jD];simp)
          have Ek:ys=[]:=abJ.1 (by rw[jY];simp)
          subst Bj Ek
          exact R.zero hb Lr
         ·have yE:=Fw hc0
          have Pp:=hft hc0
          have hnews:ys.length=K*(z+1):=jY
          have hone:∀v∈ys,v.oneCell'=true:=kF J aAe
          have hmul:(s+K)*(z+1)<=M*(z+1):=aeK _ hroom
          have hsplit:(s+K)*(z+1)=s*(z+1)+K*(z+1):=ags _ _ _
          have hst:=run_storeCells_at P p.n (a+s*(z+1)) t ys 0 c w hcell (by omega) hone
          simp only[ajf] at hst
          have H:=cP (w:=w) (ty:=ty) (base:=some ⟨p.n,a,none⟩) (sLen:=s) (sCap:=M) (cM:=ys) ht hu hd V G (by have:=hf K (aar _);rw[N,this,aaT (by omega)]) hroom
           (.inr ⟨_,rfl,by rw[fX,N];exact hst⟩)
          have vq:xs=(c.toList.drop a).take (s*(z+1)):=by
           have h1:=hfx s (aar _)
           rw[iD hcell (by omega),aaT (l:=xs) (by omega)] at h1
           have h2:((c.toList.drop a).take (s*(z+1))).toArray=xs.toArray:=(Result.ok.inj h1).1
           exact(ahV Array.toList h2).symm
          refine⟨_,_,oU e b ⟨p.n,a,M*(z+1)⟩,_,(by simp only[abe,H,aaJ,ach];try rfl),.inl rfl,.inr ⟨_,M,a,fc,rfl,λ_=>by simp,hroom,(λq=>by cases q),hroom,λ_=>by simp⟩,?_,⟨λi p V hpi=>?_,λ_ _ h=>h,aar _,rfl⟩⟩
          ·rw[b8]
           refine R.Dl hB hb hno rfl rfl rfl (by simp[World.setRow]) (λn hn hne=>setRow_other w p.n n _ (λq=>hne p wQ q.symm)) (.inr ⟨p,wQ,rfl⟩) (setRow_heap w p.n c _ t (0,0) hcell) (by simp;omega) (by rw[yg];exact hmul) ?_
           rw[yg]
           have hgoal:((c.toList.take (a+s*(z+1))++ys++c.toList.drop (a+s*(z+1)+ys.length)).drop a).take ((s+K)*(z+1))=xs++ys:=by
            rw[aeH,agj (by simp;omega),ahB,aic, <-vq, <-aeH,
             afk (by rw[abA];omega),aaT (by rw[abA];omega)]
           simp only[]
           rw[hgoal]
           exact Lr
          ·show(if i=b then _ else e.r i)=some _
           rw[acB (λq=>V (by rw[q]))];exact hpi
        ·exact tV _ M rfl (by omega)
      ·split at Q
       case isFalse=>cases Q
       rename_i OC
       simp only[No,aac] at OC
       obtain⟨rfl,rfl⟩:=OC
       cases Q
       simp only[av,aac] at hp
       obtain⟨⟨⟨⟨⟨rfl,rfl⟩,hlx⟩,F⟩,kS⟩,af4⟩:=hp
       have hfree:=R.cj (j:=j) (by rcases hj with g|g;exact .inl g;exact .inr (by simpa using g 0 (by simp)))
       have af5:∀(base:Option Addr)(sCap:Nat),x'=.slice base s sCap->sCap<s+K->dY B e j ⟨.sl j 0 0 (z+1) (s+K) (s+K) false true,h,[.b (p8 cx cy)],none,true⟩ ((do pure (.value (<-Builtin.append_ #[sT,xT] ty #[x',y'])):Sem Next).run P w):=λbase sCap hx' hlt=>by
        subst hx'
        obtain⟨Ej,IZ,sL,_,I0⟩:=bI (P:=P) (z:=z+1) (R.drawn (w.drawn+1)) yf (n:=s) rfl hx (by simp[dF])
        obtain⟨U5,_,_,G,_⟩:=bI (P:=P) R zK oY hy F
        obtain⟨BO,vr,oZ,Fx,Lq⟩:=bI (P:=P) (R.drawn (w.drawn+1)) zK oY hy F
        have hold:(Builtin.firstCells i.size s (.slice base s sCap)).run P w.drew=.ok Ej.toArray w.drew:=by
         have:=I0 s (aar _)
         rw[aaT (by omega), <-N] at this
         exact this
        have U:(Builtin.firstCells i.size K y').run P w.drew=.ok BO.toArray w.drew:=by
         have:=Lq K (aar _)
         rw[aaT (by omega), <-N] at this
         exact this
        have U4:(s+K)*i.bytes<=140737488355328:=by
         have:(s+K)*i.bytes<=2^38*256:=Nat.mul_le_mul kS ac
         omega
        have H:=fe (w:=w) (ty:=ty) ht hu hd V hz G hold U hlt (by omega) U4
        have hge:s+K<=grownCap w (s+K) sCap el:=by unfold grownCap;simp[Question.cut]
        have W:(Ej++BO++(Builtin.zeroCells zv.cells (grownCap w (s+K) sCap el-(s+K))).toList).length=grownCap w (s+K) sCap el*(z+1):=by
         simp only[abA,dG,ab,oZ,sL, <-ags];congr 1;omega
        have Dn:=qU IZ vr hlx
        have lq:(Ej++BO).length=aC (p8 cx cy):=Dn.length
        have yg:aC (p8 cx cy)=(s+K)*(z+1):=by
         rw[<-lq,abA,sL,oZ, <-ags]
        have R2:=(R.drawn (w.drawn+1)).make (j:=j) (t:=el) (ps:=p8 cx cy) (ys:=Ej++BO++(Builtin.zeroCells zv.cells (grownCap w (s+K) sCap el-(s+K))).toList) (by simpa using hj)
         (by rw[afk (Nat.le_of_eq lq.symm),aaT (Nat.le_of_eq lq)];exact Dn)
         (by rw[W,yg];exact aeK _ hge)
        refine⟨_,_,_,_,(by simp only[abe,H,aaJ,ach];try rfl),.inl rfl,.inr ⟨_,grownCap w (s+K) sCap el,0,fc,rfl,λ_=>by simp,hge,(λq=>by cases q),hge,λ_=>?_⟩,R2,c9.xK (kG hfree) rfl _⟩
        show 0+0*(z+1)+grownCap w (s+K) sCap el*(z+1)<=_
        rw[W];simp
       rcases hx with⟨rfl,rfl,a,rfl⟩|⟨p,M,a,wQ,rfl,Fw,hcap,hex,hlc,hft⟩
       ·exact af5 a 0 rfl af4
       ·exact af5 _ M rfl (by rw[hex rfl];exact af4)
     ·cases Q
   ·rename_i b z' s cap ex
    split at Q
    ·rename_i hem
     cases Q
     simp only[av,aac] at hp
     have ajo:ex=true/\cap=0:=by
      unfold UM at hem
      split at hem
      ·exact⟨rfl,acr hem⟩
      ·cases hem
     obtain⟨rfl,rfl⟩:=ajo
     rcases hx with⟨_,_,a,rfl⟩|⟨p,M,a,_,rfl,_,_,hex,hlc,_⟩
     ·exact(key a _ hj (by subst_vars;rfl) hp.1.1 hp.1.2 hp.2).val λe v h=>Dm h
     ·obtain rfl:=hex rfl
      obtain rfl:s=0:=by omega
      exact(key _ _ hj rfl hp.1.1 hp.1.2 hp.2).val λe v h=>Dm h
    ·split at Q
     ·
      rename_i q hq
      obtain⟨z2,n2,g2⟩:=q
      have aAf:cy=[.aF z2 n2 g2]:=by
       unfold afX at hq
       split at hq
       ·cases hq;rfl
       ·cases hq
      subst aAf
      split at Q
      ·rename_i zz n g hb
       split at Q
       ·rename_i hc
        simp only[No,aac] at hc
        obtain⟨⟨⟨⟨Ln,rfl⟩,rfl⟩,rfl⟩,hno⟩:=hc
        cases Q
        simp only[av,aac] at hp
        obtain⟨⟨⟨rfl,Bh⟩,F⟩,rfl,aAg,kS⟩:=hp
        have f:IY P w sT xT ty el i zv y' n2 (λys=>PR e [.aF (z+1) n2 g2] ys/\ys.length=n2*(z+1)):={
         fit:=by
          obtain⟨ys,J,jY,G,hf⟩:=bI (P:=P) R zK oY hy F
          exact⟨ys,⟨J,jY⟩,λbase sLen sCap w' h1 h2=>cP ht hu hd V G (by have:=hf n2 (aar _);rw[N,this,aaT (by omega)]) h1 h2⟩
         tV:=by
          obtain⟨ys,J,jY,G,hf⟩:=bI (P:=P) R zK oY hy F
          obtain⟨BO,vr,oZ,Fx,Lq⟩:=bI (P:=P) (R.drawn (w.drawn+1)) zK oY hy F
          refine⟨BO,⟨vr,oZ⟩,λbase sLen sCap olds h1 h2 h3=>?_⟩
          have U:(Builtin.firstCells i.size n2 y').run P w.drew=.ok BO.toArray w.drew:=by
           have:=Lq n2 (aar _)
           rw[<-N] at this oZ
           rw[aaT (by omega)] at this
           exact this
          have U4:(sLen+n2)*i.bytes<=140737488355328:=by
           have:(sLen+n2)*i.bytes<=2^38*256:=Nat.mul_le_mul h3 ac
           omega
          exact fe ht hu hd V hz G h1 U h2 (by omega) U4}
        refine tX (P:=P) R hk (aeN Ln) N ab hx hb Bh f (λys J=>⟨J.2,U3 J.1 aAg⟩) kS hno λxs ys ⟨J,jY⟩ hxs jD=>?_
        refine r7 hxs jD jY (λi V g1=>?_) λi V=>?_
        ·rw[agO (show i+1<=s by omega)]
         exact oc g1
        ·rw[show Nat.ble (s+i+1) s=false from by
          cases hb:Nat.ble (s+i+1) s with
          |false=>rfl
          |true=>have:=aeN hb;omega]
         refine oe ?_
         rw[aic]
         obtain⟨us,zs,k1,k2,k3,k4⟩:=J
         rw[PR] at k3;subst k3
         rw[acj] at k4;subst k4
         exact k2 i V
       ·cases Q
      ·cases Q
     split at Q
     ·rename_i zz n g hb
      split at Q
      ·rename_i hc
       simp only[No,aac] at hc
       obtain⟨⟨⟨⟨⟨Ln,rfl⟩,rfl⟩,Pq⟩,mX⟩,hno⟩:=hc
       cases Q
       simp only[av,aac] at hp
       obtain⟨⟨⟨rfl,Bh⟩,F⟩,kS⟩:=hp
       have f:IY P w sT xT ty el i zv y' 1 (λys=>PR e cy ys/\ys.length=1*(z+1)):={
        fit:=by
         obtain⟨ys,J,jY,G,hf⟩:=bI (P:=P) R zK oY hy F
         exact⟨ys,⟨J,jY⟩,λbase sLen sCap w' h1 h2=>cP ht hu hd V G (by have:=hf 1 (aar _);rw[N,this,aaT (by omega)]) h1 h2⟩
        tV:=by
         obtain⟨ys,J,jY,G,hf⟩:=bI (P:=P) R zK oY hy F
         obtain⟨BO,vr,oZ,Fx,Lq⟩:=bI (P:=P) (R.drawn (w.drawn+1)) zK oY hy F
         refine⟨BO,⟨vr,oZ⟩,λbase sLen sCap olds h1 h2 h3=>?_⟩
         have U:(Builtin.firstCells i.size 1 y').run P w.drew=.ok BO.toArray w.drew:=by
          have:=Lq 1 (aar _)
          rw[<-N] at this oZ
          rw[aaT (by omega)] at this
          exact this
         have U4:(sLen+1)*i.bytes<=140737488355328:=by
          have:(sLen+1)*i.bytes<=2^38*256:=Nat.mul_le_mul h3 ac
          omega
         exact fe ht hu hd V hz G h1 U h2 (by omega) U4}
       refine tX (P:=P) R hk (aeN Ln) N ab hx hb Bh f (λys J=>⟨J.2,og J.1 Pq⟩) kS hno λxs ys ⟨J,jY⟩ hxs jD=>?_
       refine r7 hxs jD jY (λi V g1=>?_) λi V=>?_
       ·rw[agO (show i+1<=s by omega)]
        exact oc g1
       ·obtain rfl:i=0:=by omega
        rw[show Nat.ble (s+0+1) s=false from by
         cases hb:Nat.ble (s+0+1) s with
         |false=>rfl
         |true=>have:=aeN hb;omega]
        refine oe ?_
        rw[Nat.zero_mul,agE,aaT (by omega)]
        exact J.closed mX
      ·
       split at Q
       case isFalse=>cases Q
       rename_i OC
       simp only[No,aac] at OC
       obtain⟨⟨⟨⟨rfl,rfl⟩,rfl⟩,Pq⟩,mX⟩:=OC
       have f:IY P w sT xT ty el i zv y' 1 (λys=>PR e cy ys/\ys.length=1*(z+1))\/¬(py=true/\dF (z+1) y=true):=by
        by_cases qh:py=true/\dF (z+1) y=true
        ·obtain⟨rfl,F⟩:=qh
         refine .inl {
          fit:=by
           obtain⟨ys,J,jY,G,hf⟩:=bI (P:=P) R zK oY hy F
           exact⟨ys,⟨J,jY⟩,λbase sLen sCap w' h1 h2=>cP ht hu hd V G (by have:=hf 1 (aar _);rw[N,this,aaT (by omega)]) h1 h2⟩
          tV:=by
           obtain⟨ys,J,jY,G,hf⟩:=bI (P:=P) R zK oY hy F
           obtain⟨BO,vr,oZ,Fx,Lq⟩:=bI (P:=P) (R.drawn (w.drawn+1)) zK oY hy F
           refine⟨BO,⟨vr,oZ⟩,λbase sLen sCap olds h1 h2 h3=>?_⟩
           have U:(Builtin.firstCells i.size 1 y').run P w.drew=.ok BO.toArray w.drew:=by
            have:=Lq 1 (aar _)
            rw[<-N] at this oZ
            rw[aaT (by omega)] at this
            exact this
           have U4:(sLen+1)*i.bytes<=140737488355328:=by
            have:(sLen+1)*i.bytes<=2^38*256:=Nat.mul_le_mul h3 ac
            omega
           exact fe ht hu hd V hz G h1 U h2 (by omega) U4}
        ·exact .inr qh
       have hG:∀xs ys,(PR e cy ys/\ys.length=1*(z+1))->PR e [.aF (z+1) s g] xs->xs.length=s*(z+1)->PR e [.aF (z+1) (s+1) λi=>bF (Nat.ble (i+1) s) (g i) cy] (xs++ys):=λxs ys ⟨J,jY⟩ hxs jD=>by
        refine r7 hxs jD jY (λi V g1=>?_) λi V=>?_
        ·rw[agO (show i+1<=s by omega)]
         exact oc g1
        ·obtain rfl:i=0:=by omega
         rw[show Nat.ble (s+0+1) s=false from by
          cases hb:Nat.ble (s+0+1) s with
          |false=>rfl
          |true=>have:=aeN hb;omega]
         refine oe ?_
         rw[Nat.zero_mul,agE,aaT (by omega)]
         exact J.closed mX
       cases eZ with
       |true=>
        cases Q
        simp only[av,aac] at hp
        obtain⟨⟨⟨Pr,Bh⟩,F⟩,hfit⟩:=hp
        exact zJ (P:=P) R N hx hb Bh (f.resolve_right λq=>q ⟨Pr,F⟩) (λys J=>⟨J.2,og J.1 Pq⟩) hfit hG
       |false=>
        cases Q
        simp only[av,aac] at hp
        obtain⟨⟨⟨Pr,Bh⟩,F⟩,hlt,kS⟩:=hp
        exact yh (P:=P) R N ab hj hx hb Bh (f.resolve_right λq=>q ⟨Pr,F⟩) (λys J=>⟨J.2,og J.1 Pq⟩) hlt kS hG
     ·cases Q
   ·cases Q
  ·cases Q
 ·cases Q
end
section
variable {P:Program} {e:cw} {B:dj} {h:List Blk} {w:World}
def Fy(R:bM B e h w){L sT ty x y v G y' h'}(t:UN P h L x y=E (h',v,Z))(hx:VR e x G)(hy:VR e y y'):
  ∃v' w',(Builtin.copy_ #[L,sT] ty #[G,y']).run P w=.ok v' w'/\VR e v v'/\bM B e h' w':=by
 unfold UN at t;split at t
 ·rename_i el b o i c cap ex wh k mm U5 p d ht zK oY;split at t
  ·rename_i U;have⟨⟨h1,q⟩,s,S⟩:=aaC.1 t;simp[aad,av] at S;obtain⟨rfl,rfl,⟨rfl,D⟩,rfl⟩:=S;have⟨N,J,V,z,hf⟩:=bI (P:=P) R zK oY hy D;have⟨us,T,K⟩:=J;rw[PR] at T;subst T;rw[acj] at K;have F:=hf (Nat.min d c) (Nat.min_le_left _ _);rw[ajC] at F V;have⟨M,hi,ad⟩:=BK U;have g:∀l(cap:Nat)w',G=.slice l c cap->((l=Y/\w'=w)\/∃a,l=E a/\(storeCells a (N.take (Nat.min d c)) 0).run P w=.ok () w')->
     (Builtin.copy_ #[L,sT] ty #[G,y']).run P w=.ok (.int .i64 (Nat.min d c)) w':=λbase cap w' f r=>by
    subst f;unfold Builtin.copy_;simp[ahF,afZ,ag0,abe,abF ht,aaJ,z,cU U,F];rcases r with⟨rfl,rfl⟩|⟨a,rfl,hr⟩
    ·simp[goInt]
    ·simp[hr,goInt]
   rcases hx with⟨rfl,rfl,a,f⟩|⟨pl,n,a,wQ,f,Fw,Q,af,ae,W⟩
   ·have u:Nat.min d 0=0:=Nat.min_eq_right (aaH _);rw[u] at s;refine⟨_,w,g a 0 w f ?_,rfl,nv R s⟩;cases a with
    |none=>exact .inl ⟨rfl,rfl⟩
    |some a=>exact .inr ⟨a,rfl,by rw[u];rfl⟩
   ·by_cases u:Nat.min d c=0
    ·rw[u] at s;exact⟨_,w,g _ n w f (.inr ⟨_,rfl,by rw[u];rfl⟩),by rw[u];rfl,nv R s⟩
    ·have⟨w',r,R'⟩:=vo (P:=P) R s wQ;have ac:Nat.min d c<=c:=Nat.min_le_right _ _;have yE:=Fw (by omega);refine⟨_,w',g _ n w' f (.inr ⟨_,rfl,?_⟩),rfl,R'⟩;have⟨_,_,_,_,_,_,_,_,_,_,_,qm⟩:=lV s
     have m:bB k (U5.take (Nat.min d c))=N.take (Nat.min d c):=by
      rw[K, <-dW]
      congr 1
      apply agh
      intro j
      have ab:mm=d:=by
       have:=ahV List.length K
       rw[V,aQ,bp] at this;exact this.symm
      by_cases H:j<Nat.min d c
      ·have h1:Nat.min d c<=d:=Nat.min_le_left d c
       rw[afY H,afY H,lS _ (by omega),List.getD,aaQ (by omega)];rfl
      ·rw[af1,acB H,af1,acB H]
     rw[<-m,yE,ajC]
     exact r
  ·cases t
 ·cases t
def Fz{xs}(h:HM xs=Z):kQ (strOfNums xs)=xs:=by
 unfold kQ strOfNums;simp[List.map_map];have:∀l,HM l=Z->l.map ((λb:UInt8=>(b.toNat:Int)) ∘ λn=>UInt8.ofNat (O n))=l:=by
  intro l;induction l with
  |nil=>intro _;rfl
  |cons n l c=>
   intro a
   simp[HM,List.all_cons,No,aac] at a
   rw[agr,c (by simpa[HM] using a.2)]
   congr 1
   show((UInt8.ofNat (O n)).toNat:Int)=n
   rw[UInt8.toNat_ofNat']
   omega
 exact this xs h
def zL(R:bM B e h w){src dst el a k m xs n}(r:P.underlying src=E (.slice el))(t:P.underlying dst=E .string)(v:gl P el=E .u8)
  (D:dN h a=E ([.af .u8 m xs],Z))(j:qw a=E n)(d:dF 1 a=Z)(z:∀s,a≠.str s)(H:A xs=m)(M:HM xs=Z)(u:VR e a k):
  (convert src dst k).run P w=.ok (.string (strOfNums xs)) w:=by
 have⟨K,i,F,l,J⟩:=bI (P:=P) R D j u d;have⟨L,o,p⟩:=i;rw[PR] at o;subst o;rw[acj,bV H] at p;rw[ajC] at F;have b:=J n (aar _);rw[ajC,aaT (by omega),p] at b;have f:=oa v;rcases zE u j with⟨g,c,rfl⟩|⟨s,_,_,y,q⟩
 ·cases g with
  |none=>
   have:xs=[]:=by
    simp[Builtin.firstCells] at b
    cases xs with
    |nil=>rfl
    |cons x xs=>simp[bB] at b
   subst this
   rw[run_convert_bytes_nil w src el r f n c dst t]
   rfl
  |some g=>
   have G:(loadCells g n).run P w=.ok (xs.map (Value.int .u8)).toArray w:=by
    simpa[Builtin.firstCells,bB] using b
   rw[run_convert_bytes_string w src dst el _ n c r f t,run_bytesToString w _ n c xs G,foldl_push_bytes]
   simp[strOfNums,ByteArray.empty,ByteArray.emptyWithCapacity]
   rfl
 ·exact absurd q (z y)
theorem zM(R:bM B e h w){src dst el s}(hs:(P.underlying src).isSome=true)(hd:P.underlying dst=some (.slice el))(he:gl P el=some .u8):
  ∃v' w' e',(convert src dst (.string s)).run P w=.ok v' w'/\VR e' (.ro true .u8 (kQ s)) v'/\bM B e' h w'/\c9 e e' none:=by
 obtain⟨d,K⟩:=Option.isSome_iff_exists.1 hs
 have W:=oa he
 have J:(convert src dst (.string s)).run P w=(Conv.stringToBytes el s).run P w:=by
  cases d<;>simp[convert,abF K,abF hd,abF W]
 let cap:=(Question.appendCap s.size 0 el).cut (w.tape w.drawn (.appendCap s.size 0 el))
 have G:s.size<=cap:=by simp[cap,Question.cut]
 let cells:Array Value:=(s.data.map λb=>Value.int .u8 b.toNat)++Array.replicate (cap-s.size) (.int .u8 0)
 have ac:cells.size=cap:=by
  have:s.data.size=s.size:=rfl
  simp[cells];omega
 have L:(choose (.appendCap s.size 0 el)).run P w=.ok cap w.drew:=by simp[Question.forced,cap]
 let j:World:=w.drew.alloc (.cells cells el)
 have v:j.heap[w.heap.size]?=some (.cells cells el (0,0)):=heap_alloc_new _ _
 let u:=j.freeze ⟨w.heap.size,cells.size,none⟩ 1
 have ab:u.heap[w.heap.size]?=some (.cells cells el (cells.size,cells.size+1)):=by
  have M:w.heap.size<j.heap.size:=(abE.1 v).1
  have hv:j.heap[w.heap.size]=.cells cells el (0,0):=(abE.1 v).2
  simp only[u,World.freeze]
  rw[acB (by omega)]
  simp only[]
  rw[Array.getElem?_eq_getElem (by simpa using M),Array.getElem_modify]
  simp[hv]
 have D:∀n,n<w.heap.size->u.heap[n]?=w.heap[n]? :=λn a=>by
  simp only[u,World.freeze]
  rw[acB (by omega)]
  simp only[]
  rw[Array.getElem?_modify,acB (by omega)]
  exact heap_alloc_old w.drew _ n a
 have S:u.heap.size=w.heap.size+1:=by
  simp only[u,World.freeze]
  rw[acB (by omega)]
  simp only[Array.size_modify]
  exact aiR _ _
 have F:(Conv.stringToBytes el s).run P w=.ok (.slice (some ⟨w.heap.size,0,none⟩) s.size cap) u:=by
  unfold Conv.stringToBytes
  rw[abe,L,aaJ]
  simp only[abe,newRow,newObj]
  have a:(Sem.new (.cells cells el) Sem.pure).run P w.drew=.ok w.heap.size j:=rfl
  have V:(markStringish ⟨w.heap.size,0,none⟩).run P j=.ok () u:=by
   unfold markStringish
   simp only[abe]
   have:(shape w.heap.size).run P j=.ok (some (el,cells.size)) j:=by
    show Result.ok (j.shape? w.heap.size) j=_
    simp[World.shape?,v]
   rw[this]
   rfl
  rw[show(Sem.new (.cells ((s.data.map λb=>Value.int .u8 b.toNat)++Array.replicate (cap-s.size) (.int .u8 0)) el) Sem.pure).run P w.drew=.ok w.heap.size j from rfl]
  simp only[aaJ,ach,V]
 let e':cw:={e with z:=λn=>if n=w.heap.size then some (cells,el,(cells.size,cells.size+1)) else e.z n}
 have U:e.z w.heap.size=none:=by
  cases hq:e.z w.heap.size with
  |none=>rfl
  |some x=>have:=R.ZP hq;omega
 have f:cw.Le e e':=⟨λ_ _ h=>h,λn o a=>by
  show(if n=w.heap.size then _ else e.z n)=some o
  rw[acB (λq=>by subst q;rw[U] at a;cases a)];exact a,aar _⟩
 have Q:e.n0<=w.heap.size:=by have:=R.n0;have:=R.dK;have:=R.size;omega
 refine⟨_,u,e',by rw[J,F],.inr ⟨w.heap.size,0,cap,cells,el,_,by rw[ic],ae8 rfl,λ_=>Q,?_,by rw[ic];exact G,by omega⟩,?_,c9.xK f rfl _⟩
 ·have:cells.toList=bB .u8 (kQ s)++t9 (cap-s.size) (.int .u8 0):=by
   simp[cells,bB,kQ]
  rw[this,agE,afk (by rw[aQ];exact aar _),aaT (by rw[aQ];exact aar _)]
 ·exact{
   os:=R.os,tape:=R.tape,output:=R.output
   size:=by have:=R.size;omega
   inj:=R.inj,dom:=R.dom
   gM:=λi p l=>by
    show(if p.n=w.heap.size then _ else e.z p.n)=none
    rw[acB (by have:=R.lt l;omega)];exact R.gM i p l
   gN:=λn c t H y=>by
    by_cases a:n=w.heap.size
    ·subst a
     have m:(if w.heap.size=w.heap.size then some (cells,el,(cells.size,cells.size+1)) else e.z w.heap.size)=some (c,t,H):=y
     rw[ae8 rfl] at m
     cases m
     exact ab
    ·have m:(if n=w.heap.size then some (cells,el,(cells.size,cells.size+1)) else e.z n)=some (c,t,H):=y
     rw[acB a] at m
     rw[D n (R.ZP m)];exact R.gN n c t H m
   bN:=λn x y=>by
    by_cases a:n=w.heap.size
    ·exact .inr (by have:=R.size;omega)
    ·have m:(if n=w.heap.size then some (cells,el,(cells.size,cells.size+1)) else e.z n)=some x:=y
     rw[acB a] at m
     exact R.bN n x m
   fU:=λg k xs hg=>(R.fU g k xs hg).imp λc ⟨t,H,h1,h2⟩=>⟨t,H,f.z _ _ h1,h2⟩
   cM:=R.cM,b6:=R.b6
   cE:=λn x y=>f.z n x (R.cE n x y)
   n0:=R.n0,dK:=R.dK
   gr:=λi qs l=>by
    rcases R.gr i qs l with g|⟨p,o,g1,g2,g3⟩
    ·exact .inl g
    ·exact .inr ⟨p,o,g1,by rw[D p.n (R.lt g1)];exact g2,g3.mono f⟩
   gap:=λi g l=>⟨(R.gap i g l).1,(R.gap i g l).2.le (λn o a=>by rw[D n (abE.1 a).1];exact a) rfl f⟩
   yi:=R.yi,yb:=R.yb
   old:=λn a T qm=>by rw[D n (by have:=R.size;omega)];exact R.old n a T qm
   lz:=λi p l=>by
    obtain⟨o,o',ho,N,ZQ⟩:=R.lz i p l
    exact⟨o,o',ho,by rw[D p.n (R.lt (R.b6 i p l))];exact N,ZQ⟩
   kr:=R.kr,iT:=R.iT
   g7:=λr hr=>by
    have:=R.g7 r hr
    rw[D r (abE.1 this.1).1];exact this
   jG:=R.jG}
end
def wF(ro:Option Nat):Fence:={Fence.wide with round:=ro}
def qW(P:Program)(f:Fn)(args:Array Value)(w:World)(R:Value->World->Prop):Prop:=match f with
 | .func f=>(∃v c,(callFunc f args).run P w=.ok (.value v) c/\R v c)\/
  ((callFunc f args).run P w=.ok (.enter f args) w/\Calls P f args w λe c=>∃v,e=.returned v/\R v c)
 | .yield l=>∃g a d b,(Instr.yield l args).run P w=.ok (.round l g a d b) w/\∀i n,RoundIn (wF i) n P l g a d b w λe c=>∃v,e=.returned v/\R v c
 |_=>False
def qW.mono{P f args w R R'}(h:qW P f args w R)(d:∀v w',R v w'->R' v w'):qW P f args w R':=by cases f with
 |func f=>
  rcases h with⟨v,w',e,h⟩|⟨e,h⟩
  ·exact .inl ⟨v,w',e,d _ _ h⟩
  ·refine .inr ⟨e,?_⟩;intro cs
   have⟨e,w',fr,⟨v,he,i⟩,rest⟩:=h cs
   exact⟨e,w',fr,⟨v,he,d _ _ i⟩,rest⟩
 |yield l=>
  have⟨fn,a,zo,b,h1,h2⟩:=h
  exact⟨fn,a,zo,b,h1,λro n=>RoundIn.mono (h2 ro n) λe w' ⟨v,g1,g2⟩=>⟨v,g1,d _ _ g2⟩⟩
 |_=>exact h.elim
def fnG(g:UF):ct:=λf a h j=>match f with
 | .func f=>g f a h j
 |_=>Y
def o7(P:Program)(G:ct):Prop:=
 ∀f b h j v c new,G f b h j=E (v,c,new,Z)->∀B(e:cw)(w:World)(args:List Value),LR e b args->bM B e h w->nS h j (A new)->
  qW P f ⟨args⟩ w λv' d=>∃a,VR a v v'/\bM B a (cO c j new) d/\c9 e a Y
def Pt P ro(m:Machine):m.fenced P (wF ro):=by intro g _;exact⟨λh=>by simp[wF,Fence.wide] at h,.inl trivial,λ_ _=>trivial,λ_ h=>by simp[wF,Fence.wide] at h⟩
def zN{P ro m m'}:StepsIn (Machine.fenced P (wF ro)) P m m'↔Steps P m m':=
 ⟨StepsIn.steps,λh=>(StepsIn.of_steps h).mono λm _=>Pt P ro m⟩
def mc{ro n P f args w R}:CallsIn (wF ro) n P f args w R↔Calls P f args w R:=by
 have hc:∀{m m'}{e},ComesIn (Machine.fenced P (wF ro)) P m m' e↔Comes P m m' e:=λ{m m' e}=>by cases e with
  |returned v=>exact zN
  |panicked chain=>exact zN
  |outgrown=>exact Iff.rfl
 exact⟨λh cs=>let⟨e,w',fr,r,s,x⟩:=h.2 cs (λ_ h=>by simp[wF,Fence.wide] at h);⟨e,w',fr,r,hc.1 s,x⟩,
  λh=>⟨trivial,λcs _=>let⟨e,w',fr,r,s,x⟩:=h cs;⟨e,w',fr,r,hc.2 s,x⟩⟩⟩
def abG(P:Program)(g:UF):Prop:=
 ∀f b h j v c new,g f b h j=E (v,c,new,Z)->∀B(e:cw)(w:World)(args:List Value),LR e b args->bM B e h w->nS h j (A new)->
  qW P (.func f) ⟨args⟩ w λv' d=>∃a,VR a v v'/\bM B a (cO c j new) d/\c9 e a Y
section
variable {P:Program} {e:cw} {B:dj} {h:List Blk} {w:World}
def dY.value{j v v' s}(R:bM B e h w)(a:s.run P w=.ok v' w)(b:VR e v v'):dY B e j (.of h (v,Z)) ((do pure (.value (<-s)):Sem Next).run P w):=
 ⟨.value v',w,e,v',by simp[a],.inl rfl,b,by show bM B e (cO h j []) w;rw[b8];exact R,c9.refl _ _⟩
def dY.s7{j v v'}(R:bM B e h w)(a:VR e v v'):dY B e j (.of h (v,Z)) ((pure (.value v'):Sem Next).run P w):=
 ⟨.value v',w,e,v',rfl,.inl rfl,a,by show bM B e (cO h j []) w;rw[b8];exact R,c9.refl _ _⟩
def dY.make{j v v' ps ys el s r}(R:bM B e h w)(c:nS h j 1)(k:PR e ps (ys.take (aC ps)))(a:aC ps<=A ys)
  (i:s.run P w=.ok v' (w.alloc (.cells ⟨ys⟩ el)))(d:VR (oU e j ⟨w.heap.size,0,A ys⟩) v v')(h1:r.v=v)(h2:r.h=h)(l:r.new=[.b ps]):dY B e j r ((do pure (.value (<-s)):Sem Next).run P w):=by
 have f:=c.imp id λg=>by simpa using g 0 (by omega)
 exact⟨.value v',w.alloc (.cells ⟨ys⟩ el),oU ..,v',(by simp[abe,i,aaJ,ach]),.inl rfl,(by rw[h1];exact d),(by rw[h2,l];exact R.make c k a),c9.xK (kG (R.cj f)) rfl _⟩
def qX{t t' d}(h:TR e t t'):∀(ps:List (Nat×Operand))vs,uP t (ps.map (·.2))=E vs->
  VP e ((ps.map (·.1)).zip vs) (ps.map λ(i,x)=>(i,Act.eval ⟨⟨t'⟩,d⟩ x))
 | [],vs,_=>by simp[VP]
 |(i,x)::ps,vs,g=>by
  simp[agr,uP] at g;split at g
  ·rename_i v a c b;cases g;exact⟨_,_,aT h c,qX h ps a b,rfl⟩
  ·cases g
def map_toArray(ps:Array (Nat×Operand))(f:Operand->Value):(ps.map λ(i,x)=>(i,f x))=(ps.toList.map λ(i,x)=>(i,f x)).toArray:=by apply aiD;simp
def I2{v}(h:(lT v).all (λp=>one p||E9 p)=Z)(c:bQ v=Z):one v=Z\/∃ps,v=.agg ps:=by
 by_cases a:∃ps,v=.agg ps
 ·exact .inr a
 ·left;have b:lT v=[v]:=by cases v<;>first|rfl|exact absurd ⟨_,rfl⟩ a
  rw[b] at h;cases v<;>simp_all[one,E9,bQ]
def VR.bQ{v v'}(h:VR e v v'):bQ v=Z:=by cases v<;>first|rfl|exact h.elim
def VR.FA{j n z len cap a wh}(h1:cap*z<=a)(h2:len<=cap):VR (oU e j ⟨n,0,a⟩) (.sl j 0 0 z len cap Z wh) (.slice (E ⟨n,0,Y⟩) len cap):=by
 right;refine⟨⟨n,0,a⟩,cap,0,fc,rfl,λ_=>?_,aar _,λ_=>rfl,h2,λ_=>?_⟩
 ·simp
 ·simpa using h1
abbrev Ops(P:Program)(B:dj)(e:cw)(w:World)(j:Nat)(r:m6)(s:Sem Value):Prop:=dY B e j r ((do pure (.value (<-s)):Sem Next).run P w)
variable {j:Nat} {t:List (Option SV)} {t':List Value} {d:List Deferred} {r:m6}
def U6{el}(R:bM B e h w)(g:(nk P el).map (λps=>(⟨.aG j 0 0,h,[.b ps],Y,Z⟩:m6))=E r)(i:nS h j (A r.new)):Ops P B e w j r (Instr.alloc el Z (.tuple #[])):=by obtain⟨ps,f,rfl⟩:=aaC.1 g;have⟨z,k,a⟩:=jo (e:=e) f;have c:=a.length;refine dY.make (v:=.aG j 0 0) R i (ys:=z.cells.toList) (el:=el) (by rw[aaT (by omega)];exact a) (by omega) (v':=.pointer (E ⟨w.heap.size,0,Y⟩)) ?_ ⟨_,fc,rfl⟩ rfl rfl rfl;simp[Instr.alloc,g9 k,newVar,newRow,newObj,Sem.run]
def ajs{el x}(m:TR e t t')(R:bM B e h w)(g:(ev t x).map (λv=>(⟨.aG j 0 0,h,[.b (lT v)],Y,(lT v).all λp=>one p||E9 p⟩:m6))=E r)(i:r.p=Z)(k:nS h j (A r.new)):Ops P B e w j r (Instr.box el (Act.eval ⟨⟨t'⟩,d⟩ x)):=by obtain⟨v,l,rfl⟩:=aaC.1 g;have c:=aT (d:=d) m l;have a:=c.parts (I2 i c.bQ);have f:=a.length;refine dY.make (v:=.aG j 0 0) R k (ys:=(Act.eval ⟨⟨t'⟩,d⟩ x).cells.toList) (el:=el) (by rw[aaT (by omega)];exact a) (by omega) (v':=.pointer (E ⟨w.heap.size,0,Y⟩)) ?_ ⟨_,fc,rfl⟩ rfl rfl rfl;simp[Instr.box,newVar,newRow,newObj,Sem.run]
def Bl{ty len}{ps:Array (Nat×Operand)}{vs}(hl:TR e t t')(R:bM B e h w)(c:uP t (ps.toList.map (·.2))=E vs)(g:(nr P ty len ((ps.toList.map (·.1)).zip vs)).map (λq=>(⟨.sl j 0 0 q.2.1 len len Z Z,h,[.b q.1],Y,q.2.2⟩:m6))=E r)(k:r.p=Z)(hj:nS h j (A r.new)):
  Ops P B e w j r (Instr.buildSlice ty len (ps.map λ(i,x)=>(i,Act.eval ⟨⟨t'⟩,d⟩ x))):=by obtain⟨⟨f,z,q⟩,hb,rfl⟩:=aaC.1 g;simp only at k;subst k;have⟨el,ys,hr,l,a,hz⟩:=vl (w:=w) hb (qX (d:=d) hl ps.toList vs c);have lq:=l.length;rw[map_toArray];exact dY.make R hj (ps:=f) (by rw[aaT (by omega)];exact l) (by omega) hr (VR.FA (Nat.le_of_eq a.symm) (aar _)) rfl rfl rfl
def Dp{ty l c a b wh}(x:TR e t t')(R:bM B e h w)(ha:ev t l=E a)(hb:ev t c=E b)(g:(oP P ty a b).map (λq=>(⟨.sl j 0 0 q.2.1 q.2.2.1 q.2.2.2.1 Z wh,h,[.b q.1],Y,q.2.2.2.2⟩:m6))=E r)(o:r.p=Z)(hj:nS h j (A r.new)):
  Ops P B e w j r (Instr.makeSlice ty (Act.eval ⟨⟨t'⟩,d⟩ l) (Act.eval ⟨⟨t'⟩,d⟩ c)):=by obtain⟨⟨i,z,n,m,q⟩,hm,rfl⟩:=aaC.1 g;simp only at o;subst o;have⟨el,ys,hr,u,f,hz,k⟩:=wU (w:=w) hm (aT (d:=d) x ha) (aT (d:=d) x hb);have lq:=u.length;exact dY.make R hj (ps:=i) (ys:=ys) (el:=el) (by rw[aaT (by omega)];exact u) (by omega) hr (VR.FA (Nat.le_of_eq f.symm) k) rfl rfl rfl
def FB{x}(v:TR e t t')(R:bM B e h w)(g:(match ev t x with
  |some (.aG b o i)=>E (.of h (.aG b o i,Z))
  |some (.uG k xs i)=>E (.of h (.uG k xs i,Z))
  |some (.qI f z l g e o i)=>E (.of h (.qI f z l g e o i,Z))
  |some (.fk b z e o i)=>E (.of h (.fk b z e o i,Z))
  |some (.fU g i)=>E (.of h (.fU g i,Z))
  |some (.fn (.func f) a b)=>E (.of h (.fn (.func f) a b,Z))
  |_=>Y)=E r):dY B e j r ((match Act.eval ⟨⟨t'⟩,d⟩ x with
  | .pointer Y| .nilIface| .nilFunc=>runtimePanic .nilDeref
  | .func (.method s) first m=>match(first[0]? :Option Value) with
   |some .nilIface=>runtimePanic .nilDeref
   |some (.iface t w)=>do
    if(<-nilAhead ((<-program).types.size+Made.depth) t w s) != E I then
     unsupported (.noEntry "op/nilCheck.the method's receiver behind this interface value is a nil pointer, or cannot be seen to be none, and the arguments act or may panic (ledger 612)")
    pure (.value (.func (.method s) first m))
   |_=>pure (.value (.func (.method s) first m))
  |x=>pure (.value x):Sem Next).run P w):=by
 split at g
 ·rename_i u;cases g;have⟨p,H,q⟩:=aT (d:=d) v u;rw[q];exact dY.s7 R ⟨p,H,rfl⟩
 ·rename_i u;cases g;have⟨n,G,c,J,K,q,F,y⟩:=aT (d:=d) v u;rw[q];exact dY.s7 R ⟨n,G,c,J,K,rfl,F,y⟩
 ·rename_i u;cases g;have⟨n,G,c,J,K,q,F,y,N⟩:=aT (d:=d) v u;rw[q];exact dY.s7 R ⟨n,G,c,J,K,rfl,F,y,N⟩
 ·rename_i u;cases g;have⟨p,H,q⟩:=aT (d:=d) v u;rw[q];exact dY.s7 R ⟨p,H,rfl⟩
 ·rename_i Q S u;cases g;have q:=aT (d:=d) v u;rw[VR] at q;rw[q];exact dY.s7 R (by rw[VR])
 ·rename_i u;cases g;have⟨L,M,F,y,q⟩:=aT (d:=d) v u;rw[q];exact dY.s7 R ⟨L,M,F,y,rfl⟩
 ·cases g
def U7{op T x y}(f:TR e t t')(R:bM B e h w)(g:(match ev t x,ev t y with
  |some (.int k a),E (.int k' b)=>(Ff op k a k' b).map (.of h)
  |some a,E b=>(eqS P op T x y a b).map (.of h)
  |_,_=>Y)=E r)(c:r.p=Z):Ops P B e w j r (do eqGuard op T x y (Act.eval ⟨⟨t'⟩,d⟩ x) (Act.eval ⟨⟨t'⟩,d⟩ y);binOp op T (Act.eval ⟨⟨t'⟩,d⟩ x) (Act.eval ⟨⟨t'⟩,d⟩ y)):=by
 split at g
 ·rename_i s a u b n m;obtain⟨⟨v,q⟩,i,rfl⟩:=aaC.1 g;simp[m6.of] at c;subst c;have G:=aT (d:=d) f n;have F:=aT (d:=d) f m;have⟨z,o,l⟩:=IT (P:=P) (e:=e) i T x y w;rw[G,F];exact dY.value R o l
 ·rename_i a b D n m;obtain⟨⟨v,q⟩,i,rfl⟩:=aaC.1 g;simp[m6.of] at c;subst c;have⟨z,o,l⟩:=Ph (P:=P) (w:=w) i (aT (d:=d) f n) (aT (d:=d) f m);exact dY.value R o l
 ·cases g
def bM.fix(R:bM B e h w){b q w' c t fr}(hB:B.e.r b=Y)(V:e.r b=E q)
  (H:fD b (h.set b .gap)=Z)(hos:w'.os=w.os)(U2:w'.tape=w.tape)(hout:w'.output=w.output)(S:w.heap.size<=w'.heap.size)
  (f:∀n,n<w.heap.size->n≠q.n->w'.heap[n]?=w.heap[n]?)(N:w'.heap[q.n]?=E (.cells c t fr)):
  bM B {e with r:=λj=>if j=b then Y else e.r j,z:=λm=>if m=q.n then E (c,t,fr) else e.z m} (h.set b .gap) w':=by
 have ab:=R.dom b q V;have hpz:=R.gM b q V;have hnew:B.w.heap.size<=q.n:=by
  rcases R.cM b q V with g|g
  ·rw[hB] at g;cases g
  ·exact g
 have hnu:∀(i:Nat)K,(h.set ..)[i]?=E (.b K)->eY b K=I:=λi K a=>by have:=(aaB.1 H) (.b K) (ae9 a);simpa using this
 have hnv:∀{i:Nat}(L:Lp),(h.set ..)[i]?=E (.g (E L))->∀v,E v∈L.t->uses b v=I:=λ{i} L a v hv=>by have:=(aaB.1 H) (.g (E L)) (ae9 a);have:=(aaB.1 this) (E v) hv;simpa[lA] using this
 generalize F:({e with r:=λj=>if j=b then Y else e.r j,z:=λm=>if m=q.n then E (c,t,fr) else e.z m}:cw)=e';have kr:∀j,e'.r j=if j=b then Y else e.r j:=λj=>by rw[<-F]
 have kz:∀m,e'.z m=if m=q.n then E (c,t,fr) else e.z m:=λm=>by rw[<-F]
 have kn:e'.n0=e.n0:=by rw[<-F]
 have km:e'.m=e.m:=by rw[<-F]
 have ky:e'.y=e.y:=by rw[<-F]
 have U:∀j p,j≠b->e.r j=E p->e'.r j=E p:=λj p D s=>by rw[kr,acB D];exact s
 have G:∀j p,e'.r j=E p->j≠b/\e.r j=E p:=λj p s=>by
  rw[kr] at s;split at s
  ·cases s
  ·rename_i D;exact⟨D,s⟩
 have hz:∀n o,e.z n=E o->e'.z n=E o:=λn o l=>by rw[kz,acB (λx=>by rw[x,hpz] at l;cases l)];exact l
 have Ln:∀j p,B.e.r j=E p->j≠b:=λj p s x=>by rw[x,hB] at s;cases s
 have Q:∀(i:Nat)(p:Pl),i≠b->e.r i=E p->p.n≠q.n:=λi p a s x=>a (R.inj i b p q s V x);exact{
  os:=hos.trans R.os,tape:=U2.trans R.tape,output:=hout.trans R.output
  size:=af3 R.size S
  inj:=λi j p p' a D=>R.inj i j p p' (G i p a).2 (G j p' D).2
  dom:=λi p a=>by simpa using R.dom i p (G i p a).2
  gM:=λi p a=>by
   have⟨T,M⟩:=G i p a;rw[kz,acB (Q i p T M)];exact R.gM i p M
  gN:=λn cc tt ff l=>by
   rw[kz] at l;split at l
   ·rename_i x;cases l;rw[x];exact N
   ·rename_i x;rw[f n (R.ZP l) x];exact R.gN n cc tt ff l
  bN:=λn x l=>by
   rw[kz] at l;split at l
   ·rename_i y;right;omega
   ·exact R.bN n x l
  fU:=λg k xs hg=>(R.fU g k xs hg).imp λc ⟨t,fr,T,M⟩=>⟨t,fr,hz _ _ T,M⟩
  cM:=λi p a=>R.cM i p (G i p a).2
  b6:=λi p a=>U i p (Ln i p a) (R.b6 i p a)
  cE:=λn x l=>hz n x (R.cE n x l)
  n0:=by rw[kn];exact R.n0
  dK:=R.dK
  gr:=λi K a=>by
   have uI:=a
   by_cases J:b=i
   ·subst J;rw[acg ab] at a;cases a
   ·rw[abI J] at a
    rcases R.gr i K a with⟨g1,g2⟩|⟨p,o,g1,g2,c',t',rfl,g3,g4,g5⟩
    ·exact .inl ⟨g1,by rw[kr,acB (Ne.symm J)];exact g2⟩
    ·refine .inr ⟨p,_,U i p (Ne.symm J) g1,by rw[f p.n (R.lt g1) (Q i p (Ne.symm J) g1)];exact g2,c',t',rfl,g3,g4,?_⟩
     exact PR.cN hz (by rw[kn];exact aar _) K _ (λj p D s=>U j p (λx=>by subst x;rw[hnu i K uI] at D;cases D) s) g5
  gap:=λi g a=>by
   by_cases J:b=i
   ·subst J
    rw[acg ab] at a
    cases a
    exact⟨by rw[kr,ae8 rfl],trivial⟩
   ·have uI:=a
    rw[abI J] at a
    refine⟨by rw[kr,acB (Ne.symm J)];exact(R.gap i g a).1,(R.gap i g a).2.jy (λn o l=>?_) (by rw[ky]) λL hL v v' hm hv=>VR.cN hz (by rw[kn];exact aar _) v v' (λj p D s=>U j p (λx=>by subst x;subst hL;rw[hnv L uI v hm] at D;cases D) s) hv⟩
    rw[f n (abE.1 l).1 λx=>by
     subst x
     have⟨c',t',T,_⟩:=R.gu V
     rw[T] at l;cases l]
    exact l
  yi:=by rw[ky];exact R.yi
  yb:=by rw[ky];exact R.yb
  old:=λn l H qm=>by
   rw[f n (by have:=R.size;omega) (by omega)]
   exact R.old n l H qm
  lz:=λi p a=>by
   have⟨o,o',ho,ho',ZQ⟩:=R.lz i p a
   exact⟨o,o',ho,by rw[f p.n (R.lt (R.b6 i p a)) (Q i p (Ln i p a) (R.b6 i p a))];exact ho',ZQ⟩
  kr:=R.kr
  iT:=by simpa using R.iT
  g7:=λr U=>by
   rw[km] at U
   have:=R.g7 r U
   rw[f r (abE.1 this.1).1 λx=>by
    subst x
    have⟨c',t',T,_⟩:=R.gu V
    have M:=this.1
    rw[T] at M;cases M]
   exact this
  jG:=by rw[km];exact R.jG}
theorem Pu{k dst x}(hk:∀i p,B.e.r i=E p->i<k)(hl:TR e t t')(R:bM B e h w)(g:IP P k h dst (ev t x)=E r)(G:r.p=Z):Ops P B e w j r (convert dst dst (Act.eval ⟨⟨t'⟩,d⟩ x)):=by
 unfold IP at g;split at g;case h_2=>cases g
 rename_i b n m hx;split at g;case h_2=>cases g
 rename_i el q H hd hb;split at g;case h_2=>cases g
 rename_i hu hc;cases g;simp only[No] at hc;have⟨⟨⟨Ln,W⟩,N⟩,hno⟩:=hc;have Ln:=aeN Ln;have W:=acr W;have N:=acr N;subst W N;simp[aac] at G;have hB:B.e.r b=Y:=by cases hq:B.e.r b with
  |none=>rfl
  |some p=>have:=hk b p hq;omega
 have hv:=aT (d:=d) hl hx
 rcases hv with⟨h0,_⟩|⟨p,ab,a,y,q2,M,q4,J,q6,q7⟩
 ·cases h0
 have J:=J rfl
 subst J
 have M:=M (by omega)
 have q7:=q7 (by omega)
 rcases R.gr b _ hb with⟨v,_⟩|⟨p',o,v,S,c,t0,rfl,g3,g4,g5⟩
 ·simp[aC,kf] at v
 rw[y] at v;cases v
 have l:bB .u8 H=(c.toList.drop p.base).take (A H):=by
  have⟨zs,z1,z2⟩:=g5
  rw[PR] at z1;subst z1
  rw[acj, <-G,bV rfl] at z2
  rw[z2.symm]
  simp[aC,kf]
 have hn:aC [SV.af .u8 (n+1) H]=n+1:=by simp[aC,kf]
 rw[hn] at g4
 let f:=w.freeze ⟨p.n,c.size,Y⟩ 1
 have V:f.heap[p.n]?=E (.cells c t0 (c.size,c.size+1)):=by
  have F:=(abE.1 S).1
  have D:=(abE.1 S).2
  simp only[f,World.freeze]
  rw[acB (by omega)]
  simp only[]
  rw[Array.getElem?_eq_getElem (by simpa using F),Array.getElem_modify]
  simp[D]
 have dR:∀n,n<w.heap.size->n≠p.n->f.heap[n]?=w.heap[n]? :=λn hn L=>by
  simp only[f,World.freeze]
  rw[acB (by omega)]
  simp only[]
  rw[Array.getElem?_modify,acB (Ne.symm L)]
 have Q:f.heap.size=w.heap.size:=by
  simp only[f,World.freeze]
  rw[acB (by omega)]
  simp only[Array.size_modify]
 have T:=R.fix hB y hno (by simp only[f,World.freeze];rw[acB (by omega)]) (by simp only[f,World.freeze];rw[acB (by omega)]) (by simp only[f,World.freeze];rw[acB (by omega)]) (by omega) dR V
 have U:(markStringish ⟨p.n,a,Y⟩).run P w=.ok () f:=by
  unfold markStringish
  simp only[abe]
  have:(shape p.n).run P w=.ok (E (t0,c.size)) w:=by
   show Result.ok (w.shape? p.n) w=_
   simp[World.shape?,S]
  rw[this]
  rfl
 have u:(convert dst dst (.slice (E ⟨p.n,a,Y⟩) (n+1) (n+1))).run P w=.ok (.slice (E ⟨p.n,a,Y⟩) (n+1) (n+1)) f:=by
  have he:=oa hu
  simp only[convert,abe,abF hd,abF he,aaJ,beq_self_eq_true,U,ach]
 refine⟨.value (.slice (E ⟨p.n,a,Y⟩) (n+1) (n+1)),f,{e with r:=λj=>if j=b then Y else e.r j,z:=λm=>if m=p.n then E (c,t0,(c.size,c.size+1)) else e.z m},.slice (E ⟨p.n,a,Y⟩) (n+1) (n+1),?_,.inl rfl,?_,by show bM ..;rw[b8];exact T,⟨λi p' hi K=>?_,λm o s=>?_,aar _,rfl⟩⟩
 ·rw[q2]
  simp only[abe,u,aaJ,ach]
 ·refine .inr ⟨p.n,a,n+1,c,t0,(c.size,c.size+1),by rw[G],ae8 rfl,λ_=>?_,?_,by omega,by omega⟩
  ·show e.n0<=p.n
   have:=R.n0;have:=R.dK
   rcases R.cM b p y with x|x
   ·rw[hB] at x;cases x
   ·omega
  ·rw[M,l];simp
 ·show(if i=b then Y else e.r i)=E p'
  rw[acB (λx=>hi (by rw[x]))];exact K
 ·show(if m=p.n then _ else e.z m)=E o
  rw[acB (λx=>by rw[x,R.gM b p y] at s;cases s)];exact s
def I3{src dst x}(u:TR e t t')(R:bM B e h w)(g:zx P h src dst (ev t x)=E r)(M:r.p=Z):Ops P B e w j r (convert src dst (Act.eval ⟨⟨t'⟩,d⟩ x)):=by
 unfold zx at g;split at g
 ·rename_i z c;split at g
  ·rename_i J y;split at g
   ·rename_i l U;split at g
    ·rename_i dd o;cases g;obtain⟨s,f,rfl⟩:=aT u c;have⟨D,L,N,i,V,S,H⟩:=zM (s:=s) R (src:=src) (dst:=dst) (by simp[o]) y l;refine⟨.value D,L,N,D,?_,.inl rfl,V,by show bM B N (cO h j []) L;rw[b8];exact S,H⟩;rw[f];simp[abe,i,aaJ,ach]
    ·cases g
   ·cases g
  ·obtain⟨v,G,rfl⟩:=aaC.1 g;obtain⟨D,i,f⟩:=xI (P:=P) (w:=w) G (aT (d:=d) u c);exact dY.value R i f
 ·rename_i k1 n c;obtain⟨v,G,rfl⟩:=aaC.1 g;obtain⟨D,i,f⟩:=xI (P:=P) (w:=w) G (aT (d:=d) u c);exact dY.value R i f
 ·rename_i c;split at g
  ·rename_i J o y;split at g
   ·rename_i l;cases g;have f:=aT (d:=d) u c;rw[f];exact dY.value R (run_convert_bytes_nil w src J o (oa l) 0 0 dst y) ⟨ByteArray.empty,rfl,rfl⟩
   ·cases g
  ·cases g
 ·rename_i a F ab W c;split at g
  ·rename_i J m z q n o y yD T;split at g
   ·rename_i l;cases g;simp[m6.of,av,No,aac] at M;obtain⟨⟨rfl,b,k⟩,K⟩:=M;have i:=zL (P:=P) R o y l yD T b (λs q=>F s (by rw[q])) k K (aT (d:=d) u c);have Q:=dY.value (j:=j) R i (show VR e (.str z) _ from⟨_,rfl,(Fz K).symm⟩);have h3:aa (aa Z (dF 1 a&&C (A z=m))) (HM z)=Z:=by rw[b,K,Me k];rfl
    rw[h3];exact Q
   ·cases g
  ·cases g
 ·cases g
def I4{l x}(K:TR e t t')(R:bM B e h w)(g:(match P.underlying l,ev t x with
  |some (.array (n+1) e),E (.sl b o i 1 len _ _ _)=>match gl P e with
   |some _=>E (m6.of h (.aG b o i,C (n+1<=len)))
   |none=>Y
  |some (.array (n+1) e),E (.ro _ k xs)=>match gl P e with
   |some _=>E (.of h (.uG k xs 0,C (n+1<=A xs)))
   |none=>Y
  |_,_=>Y)=E r)(m:r.p=Z):Ops P B e w j r (Instr.arrayAt l (Act.eval ⟨⟨t'⟩,d⟩ x)):=by
 split at g
 ·rename_i n T b o i len cap W wh D H;split at g
  ·cases g;simp[m6.of,aac] at m;rcases aT K H with⟨J,_⟩|⟨p,q,a,z,y,U,_,_,Q,_⟩
   ·omega
   ·have L:=U (by omega);have s:¬len<n+1:=by omega
    rw[y];have G:(Instr.arrayAt l (.slice (E ⟨p.n,a,Y⟩) len q)).run P w=.ok (.pointer (E ⟨p.n,a,Y⟩)) w:=by simp[Instr.arrayAt,abF D,s]
    have:=dY.value (j:=j) (v:=.aG b o i) R G ⟨p,z,by rw[L,ajC]⟩;have F:=Me m;rw[F];exact this
  ·cases g
 ·rename_i n T f k xs D H;split at g
  ·cases g;simp[m6.of,aac] at m;rcases aT K H with⟨J,_⟩|⟨u,o,cap,c,S,V,y,N,_,M,_⟩
   ·subst J;simp at m
   ·have s:¬A xs<n+1:=by omega
    rw[y];have G:(Instr.arrayAt l (.slice (E ⟨u,o,Y⟩) (A xs) cap)).run P w=.ok (.pointer (E ⟨u,o,Y⟩)) w:=by simp[Instr.arrayAt,abF D,s]
    have:=dY.value (j:=j) (v:=.uG k xs 0) R G ⟨u,o,c,S,V,rfl,N,M⟩;have F:=Me m;rw[F];exact this
  ·cases g
 ·cases g
def LR.mJ(a:TR e t t'){xs:Array Operand}{vs}(h:uP t xs.toList=E vs):LR e vs (xs.map (Act.eval ⟨⟨t'⟩,d⟩)).toList:=by rw[Array.toList_map];exact rR a h
def jc{c b o args'}(f:c.callee=.builtin b)(g:args'=c.args.map (Act.eval ⟨⟨t'⟩,d⟩))(a:o.op=.call c):
  (execOp (Act.eval ⟨⟨t'⟩,d⟩) o)=builtin b c.argTypes o.type (c.args.map λ| .const _=>Z|_=>I) args':=by unfold execOp;rw[a];simp[resolve,f];rw[g];rfl
theorem Pv{G:ct}{eZ:Tmp->Bool}{k:Nat}{o:Oper}(g:oL P G eZ k t h j o=some r)(hp:r.p=true)(hc:∀c f,o.op=.call c->c.callee≠.value f)(hj:nS h j r.new.length)
  (hk:∀i p,B.e.r i=some p->i<k)(hl:TR e t t')(R:bM B e h w):dY B e j r ((execOp (Act.eval ⟨⟨t'⟩,d⟩) o).run P w):=by
 have aju:(∃c,o.op=.call c)\/∀c,o.op≠.call c:=by cases o.op<;>simp
 rcases aju with⟨c,hop⟩|hnc
 ·
  unfold oL at g
  rw[hop] at g
  simp only at g
  split at g
  ·rename_i f iB;exact absurd iB (hc c f hop)
  ·rename_i iB
   split at g
   ·rename_i ty a hty ha
    obtain⟨v,hb,rfl⟩:=aaC.1 g
    obtain⟨y,zs,hy,hz,q⟩:=LR.mJ (d:=d) hl ha
    rw[LR] at hz;subst hz
    obtain⟨v',hr,hv⟩:=IW (P:=P) (w:=w) (ty:=o.type) hb hy
    have h1:c.argTypes= #[ty]:=aiD hty
    have h2: #[y]=c.args.map (Act.eval ⟨⟨t'⟩,d⟩):=by apply aiD;exact q.symm
    rw[jc iB h2 hop,h1]
    exact dY.value R hr hv
   ·cases g
  ·rename_i iB
   split at g
   ·rename_i ty a hty ha
    obtain⟨v,hb,rfl⟩:=aaC.1 g
    obtain⟨y,zs,hy,hz,q⟩:=LR.mJ (d:=d) hl ha
    rw[LR] at hz;subst hz
    obtain⟨v',hr,hv⟩:=IX (P:=P) (w:=w) (ty:=o.type) hb hy
    have h1:c.argTypes= #[ty]:=aiD hty
    have h2: #[y]=c.args.map (Act.eval ⟨⟨t'⟩,d⟩):=by apply aiD;exact q.symm
    rw[jc iB h2 hop,h1]
    exact dY.value R hr hv
   ·cases g
  ·rename_i iB
   split at g
   ·rename_i kk a vs ha
    obtain⟨n,hb,rfl⟩:=aaC.1 g
    obtain⟨y,zs,hy,hz,q⟩:=LR.mJ (d:=d) hl ha
    rw[VR] at hy;subst hy
    have h2:(⟨.int kk a::zs⟩:Array Value)=c.args.map (Act.eval ⟨⟨t'⟩,d⟩):=by apply aiD;exact q.symm
    rw[jc iB h2 hop]
    exact dY.value (s:=Builtin.min_ c.argTypes o.type ⟨.int kk a::zs⟩) R (zF hb hz) rfl
   ·cases g
  ·rename_i iB
   split at g
   ·rename_i ty xt a b hty ha
    obtain⟨y,zs,hy,hz,q⟩:=LR.mJ (d:=d) hl ha
    obtain⟨y2,zs2,hy2,hz2,q2⟩:=hz
    rw[LR] at hz2;subst hz2 q2
    have h1:c.argTypes= #[ty,xt]:=aiD hty
    have h2: #[y,y2]=c.args.map (Act.eval ⟨⟨t'⟩,d⟩):=by apply aiD;exact q.symm
    rw[jc iB h2 hop,h1]
    exact Bk R g hp hj hk hy hy2
   ·cases g
  ·rename_i iB
   split at g
   ·rename_i ty xt a b hty ha
    obtain⟨⟨h',v,pp⟩,hb,rfl⟩:=aaC.1 g
    simp only at hp;subst hp
    obtain⟨y,zs,hy,hz,q⟩:=LR.mJ (d:=d) hl ha
    obtain⟨y2,zs2,hy2,hz2,q2⟩:=hz
    rw[LR] at hz2;subst hz2 q2
    have h1:c.argTypes= #[ty,xt]:=aiD hty
    have h2: #[y,y2]=c.args.map (Act.eval ⟨⟨t'⟩,d⟩):=by apply aiD;exact q.symm
    rw[jc iB h2 hop,h1]
    obtain⟨v',w',hr,hv,R'⟩:=Fy (P:=P) (sT:=xt) (ty:=o.type) R hb hy hy2
    refine⟨.value v',w',e,v',?_,.inl rfl,hv,by rw[b8];exact R',c9.refl _ _⟩
    show((do pure (.value (<-Builtin.copy_ #[ty,xt] o.type #[y,y2])):Sem Next)).run P w=_
    simp only[abe,hr,aaJ,ach]
   ·cases g
  ·cases g
 unfold oL at g
 unfold execOp
 generalize o.op=op at g hnc ⊢
 cases op<;>simp only at g
 case move x=>
  obtain⟨v,hx,rfl⟩:=aaC.1 g
  exact dY.s7 R (aT hl hx)
 case assign x=>
  obtain⟨v,hx,rfl⟩:=aaC.1 g
  exact dY.s7 R (aT hl hx)
 case pick c a b=>
  split at g
  ·rename_i H8
   obtain⟨v,hx,rfl⟩:=aaC.1 g
   have hb:Act.eval ⟨⟨t'⟩,d⟩ c=.bool true:=aT (d:=d) hl H8
   have:=dY.s7 (P:=P) (j:=j) R (aT (d:=d) hl hx)
   simpa[hb,asBool] using this
  ·rename_i H8
   obtain⟨v,hx,rfl⟩:=aaC.1 g
   have hb:Act.eval ⟨⟨t'⟩,d⟩ c=.bool false:=aT (d:=d) hl H8
   have:=dY.s7 (P:=P) (j:=j) R (aT (d:=d) hl hx)
   simpa[hb,asBool] using this
  ·cases g
 case alloc el=>exact U6 R g hj
 case box el x=>exact ajs hl R g hp hj
 case build ty ps=>
  split at g
  ·rename_i vs hvs
   obtain⟨⟨v,q⟩,hb,rfl⟩:=aaC.1 g
   simp only[m6.of] at hp;subst hp
   obtain⟨v',hr,hv⟩:=Di (w:=w) hb (qX (d:=d) hl ps.toList vs hvs)
   exact dY.value (s:=Instr.build ty (ps.map λ(i,x)=>(i,Act.eval ⟨⟨t'⟩,d⟩ x))) R (by rw[map_toArray];exact hr) hv
  ·cases g
 case buildSlice ty len ps=>
  split at g
  ·rename_i vs hvs;exact Bl hl R hvs g hp hj
  ·cases g
 case makeSlice ty l c=>
  split at g
  ·rename_i a b ha hb;exact Dp hl R ha hb g hp hj
  ·cases g
 case load ty x=>
  split at g
  ·rename_i a hx
   obtain⟨⟨v,q⟩,hb,rfl⟩:=aaC.1 g
   simp only[m6.of] at hp;subst hp
   obtain⟨ad,v',ha,hr,hv⟩:=xH (P:=P) R hb (aT (d:=d) hl hx)
   exact dY.value (s:=Instr.loadAt ty (Act.eval ⟨⟨t'⟩,d⟩ x)) R (by rw[ha];simp[Instr.loadAt,Instr.sureAddr,hr]) hv
  ·cases g
 case store ty x y=>
  split at g
  ·rename_i a v hx hy
   obtain⟨⟨h',q⟩,hb,rfl⟩:=aaC.1 g
   simp only at hp;subst hp
   obtain⟨ad,w',ha,hr,R'⟩:=De (P:=P) R hb (aT (d:=d) hl hx) (aT (d:=d) hl hy)
   refine⟨.skip,w',e,undef,?_,.inr ⟨rfl,rfl⟩,VR.empty,by rw[b8];exact R',c9.refl _ _⟩
   show((do Instr.storeAt ty (Act.eval ⟨⟨t'⟩,d⟩ x) (Act.eval ⟨⟨t'⟩,d⟩ y);pure .skip:Sem Next)).run P w=_
   rw[ha]
   simp[Instr.storeAt,Instr.sureAddr,hr]
  ·cases g
 case nilCheck x=>exact FB hl R g
 case binOp op T x y T'=>exact U7 hl R g hp
 case unOp op T x=>
  split at g
  ·rename_i a hx
   obtain⟨v,hb,rfl⟩:=aaC.1 g
   obtain⟨v',hr,hv⟩:=Pj (P:=P) (w:=w) hb (aT (d:=d) hl hx)
   exact dY.value R hr hv
  ·cases g
 case convert src dst x=>
  split at g
  ·rename_i hsd
   obtain rfl:=acr hsd
   exact Pu hk hl R g hp
  ·exact I3 hl R g hp
 case sliceToArrayPointer arr x=>exact I4 hl R g hp
 case makeInterface ty x=>
  split at g
  ·cases g
  ·rename_i dd v hni hu hx
   split at g
   ·rename_i ho
    cases g
    have hr:(Instr.makeInterface ty (Act.eval ⟨⟨t'⟩,d⟩ x)).run P w=.ok (.iface ty (Act.eval ⟨⟨t'⟩,d⟩ x)) w:=by
     unfold Instr.makeInterface
     rw[abe,abF hu,aaJ]
     cases dd<;>first|exact(hni _ rfl).elim|rfl
    exact dY.value R hr ⟨_,aT (d:=d) hl hx,rfl⟩
   ·cases g
  ·cases g
 case makeFunc fn first captured=>
  split at g
  ·rename_i a b ha hb
   cases g
   exact dY.value R (s:=Instr.makeFunc fn (first.map (Act.eval ⟨⟨t'⟩,d⟩)) (captured.map (Act.eval ⟨⟨t'⟩,d⟩))) rfl ⟨_,_,LR.mJ (d:=d) hl ha,LR.mJ (d:=d) hl hb,rfl⟩
  ·cases g
 case fieldAddr ty x i=>
  split at g
  ·rename_i a hx
   obtain⟨v,hb,rfl⟩:=aaC.1 g
   obtain⟨v',hr,hv⟩:=wO (P:=P) (w:=w) hb (aT (d:=d) hl hx)
   exact dY.value R hr hv
  ·cases g
 case field ty x i=>
  split at g
  ·rename_i a hx
   obtain⟨⟨v,q⟩,hb,rfl⟩:=aaC.1 g
   simp only[m6.of] at hp;subst hp
   obtain⟨v',hr,hv⟩:=Df (P:=P) (w:=w) hb (aT (d:=d) hl hx)
   exact dY.value R hr hv
  ·cases g
 case indexAddr ty x i=>
  split at g
  ·rename_i a b hx hi
   obtain⟨⟨v,q⟩,hb,rfl⟩:=aaC.1 g
   simp only[m6.of] at hp;subst hp
   obtain⟨v',hr,hv⟩:=wP (P:=P) (w:=w) hb (aT (d:=d) hl hx) (aT (d:=d) hl hi)
   exact dY.value R hr hv
  ·cases g
 case index ty x i=>
  split at g
  ·rename_i a b hx hi
   obtain⟨⟨v,q⟩,hb,rfl⟩:=aaC.1 g
   simp only[m6.of] at hp;subst hp
   obtain⟨v',hr,hv⟩:=Dg (P:=P) (w:=w) hb (aT (d:=d) hl hx) (aT (d:=d) hl hi)
   exact dY.value R hr hv
  ·cases g
 case slice ty x lo hi mx=>
  split at g
  ·rename_i a l u m hx hlo hhi hmx
   split at g
   ·rename_i hz3
    obtain⟨⟨v,q⟩,hb,rfl⟩:=aaC.1 g
    simp only[m6.of] at hp;subst hp
    obtain⟨v',hr,hv⟩:=Dk (P:=P) R hz3 hlo hhi hmx hb (aT (d:=d) hl hx) (lZ (d:=d) hl hlo) (lZ (d:=d) hl hhi) (lZ (d:=d) hl hmx)
    exact dY.value R hr hv
   obtain⟨⟨v,q⟩,hb,rfl⟩:=aaC.1 g
   simp only[m6.of] at hp;subst hp
   obtain⟨v',hr,hv⟩:=oX (P:=P) R hb (aT (d:=d) hl hx) (lZ (d:=d) hl hlo) (lZ (d:=d) hl hhi) (lZ (d:=d) hl hmx)
   exact dY.value R hr hv
  ·cases g
 case typeAssert x xT asserted ok=>
  split at g
  ·rename_i a hx
   obtain⟨v,hb,rfl⟩:=aaC.1 g
   obtain⟨v',hr,hv⟩:=Bi (P:=P) (w:=w) (xT:=xT) hb (aT (d:=d) hl hx)
   exact dY.value R hr hv
  ·cases g
 case extract x i=>
  split at g
  ·rename_i vs hx
   obtain⟨v,hb,rfl⟩:=aaC.1 g
   obtain⟨ys,hys,q⟩:=aT (d:=d) hl hx
   obtain⟨y,hy,hv⟩:=hys.get hb
   exact dY.value (s:=Instr.extract (Act.eval ⟨⟨t'⟩,d⟩ x) i) (v':=y) R (by rw[q];simp[Instr.extract,hy]) hv
  ·cases g
 case call c=>exact absurd rfl (hnc c)
 all_goals cases g
end
section
variable {P:Program}
def tY{G}(hG:o7 P G){eZ k j n ro t t' h r o}(g:oL P G eZ k t h j o=E r)(N:r.p=Z)
  {B e w d}(hj:nS h j (A r.new))(H:∀i p,B.e.r i=E p->i<k)(U:TR e t t')(R:bM B e h w){b Q}
  (D:∀e' v' w',VR e' r.v v'->bM B e' (cO r.h j r.new) w'->c9 e e' r.lU->b (Act.put ⟨⟨t'⟩,d⟩ o.dst v') w'):o.wpIn (wF ro) n P ⟨⟨t'⟩,d⟩ w b Q:=by
 have tj:∀c,o.op≠.defer c:=λc u=>by unfold oL at g;rw[u] at g;cases g
 refine⟨λ_ _=>trivial,?_⟩;rw[Oper.semAt_eq _ _ _ tj];by_cases u:∃c f,o.op=.call c/\c.callee=.value f
 ·have⟨c,f,u,S⟩:=u;unfold oL at g;rw[u] at g;simp only[S] at g;split at g
  ·rename_i K first nM vs hf W;split at g;case h_2=>cases g
   rename_i z;obtain⟨⟨v,h',new,q⟩,hg,rfl⟩:=aaC.1 g;simp only at N;subst N;have⟨ys,us,h1,h2,F⟩:=aT (d:=d) U hf;have y:=(h1.append (rR (d:=d) U W)).append h2;have H:=hG K _ h j v h' new hg B e w _ y R hj;cases K with
   |func K=>
    have L:(execOp (Act.eval ⟨⟨t'⟩,d⟩) o).run P w=(callFunc K ⟨ys++c.args.toList.map (Act.eval ⟨⟨t'⟩,d⟩)++us⟩).run P w:=by
     unfold execOp;rw[u];simp[resolve,S,F,Deferred.ofValue,invoke,abe,ach,aaJ];congr 2;apply aiD;simp
    rw[L];rcases H with⟨v',w',J,e',s,m,a⟩|⟨J,T⟩
    ·rw[J];exact D e' v' w' s m a
    ·rw[J];refine⟨λh=>by simp[wF,Fence.wide] at h,mc.2 ?_⟩;intro cs;obtain⟨x,w',fr,⟨v',rfl,e',s,m,a⟩,rest⟩:=T cs
     exact⟨.returned v',w',fr,D e' v' w' s m a,rest⟩
   |yield l=>
    obtain⟨fn,ad,zo,ac,hy,M⟩:=H
    have kD:us=[]:=by
     simp[yOK,List.isEmpty_iff] at z
     subst z;exact h2
    subst kD
    rw[acj] at hy
    have L:(execOp (Act.eval ⟨⟨t'⟩,d⟩) o).run P w=(Instr.yield l ⟨ys++c.args.toList.map (Act.eval ⟨⟨t'⟩,d⟩)⟩).run P w:=by
     unfold execOp
     rw[u]
     simp[resolve,S,F,Deferred.ofValue,invoke,abe,ach,aaJ]
     congr 2
     apply aiD
     simp
    rw[L,hy,Oper.uponIn_round]
    exact⟨λh=>by simp[wF,Fence.wide] at h,RoundIn.mono (M ro _) λx w' ⟨v',q,e',s,m,a⟩=>by subst q;exact D e' v' w' s m a⟩
   |_=>exact H.elim
  ·cases g
 ·obtain⟨nx,w',e',v',J,ZT,s,m,a⟩:=Pv g N (λc f q q'=>u ⟨c,f,q,q'⟩) hj H U R
  rw[J]
  rcases ZT with rfl|⟨rfl,rfl⟩
  ·exact D e' v' w' s m a
  ·exact D e' undef w' s m a
def VR.ar8{e x b}(h:VR e x (.bool b)):x=.bool b\/x=.nl (.bool b):=by cases x with
 |bool c=>rw[VR] at h;cases h;exact .inl rfl
 |nl v=>rw[VR] at h;subst h;exact .inr rfl
 |int=>cases h
 |str=>have⟨_,q,_⟩:=h;cases q
 |af=>exact h.elim
 |aG=>have⟨_,_,q⟩:=h;cases q
 |sl=>rcases h with⟨_,_,_,q⟩|⟨_,_,_,_,q,_⟩<;>cases q
 |ro=>rcases h with⟨_,_,_,q,_⟩|⟨_,_,_,_,_,_,q,_⟩<;>cases q
 |iX=>rcases h with⟨_,_,_,q,_⟩|⟨_,_,_,_,_,_,q,_⟩<;>cases q
 |aO=>rcases h with⟨_,_,_,q,_⟩|⟨_,_,_,_,_,_,q,_⟩<;>cases q
 |uG=>have⟨_,_,_,_,_,q,_⟩:=h;cases q
 |ye=>have⟨_,_,_,_,_,q,_⟩:=h;cases q
 |qI=>have⟨_,_,_,_,_,q,_⟩:=h;cases q
 |agg=>have⟨_,_,q⟩:=h;cases q
 |bP=>have⟨_,_,q⟩:=h;cases q
 |iface=>have⟨_,_,q⟩:=h;cases q
 |fn=>have⟨_,_,_,_,q⟩:=h;cases q
 |aF=>exact h.elim
 |b9=>rcases h with⟨_,_,_,q⟩|⟨_,_,_,_,q,_⟩<;>cases q
 |fk=>have⟨_,_,q⟩:=h;cases q
 |xD=>have⟨_,_,q⟩:=h;cases q
 |fU=>rw[VR] at h;cases h
def fJ{e t t'}(h:TR e t t'){ops o b}(g:eC ops t o=E b):Region.wanted o (yielded ops ⟨t'⟩)=b:=by
 unfold eC at g;unfold Region.wanted;split at g
 ·rename_i l;rw[l];cases g;rfl
 ·rename_i j a l;rw[l];simp[];unfold yielded;have D:ops[j]?=ops.toList[j]? :=by simp
  rw[D];split at g
  ·rename_i p;rw[p];cases g;rfl
  ·rename_i i p;rw[p];simp only[ajZ];have e2:(⟨t'⟩:Array Value)[i]?=t'[i]? :=by simp
   rw[e2];split at g
   ·rename_i u;cases g;have:t'[i]?=Y:=by rw[List.getElem?_eq_none_iff] at u ⊢;rw[<-h.1];exact u
    rw[this];rfl
   ·cases g
   ·rename_i x n;cases g;have⟨f,k,c⟩:=h.get n;rw[VR] at c;subst c;rw[k];cases x<;>cases a<;>rfl
   ·cases g
   ·rename_i v m y n;cases g;have⟨f,k,c⟩:=h.get n;rw[k];by_cases s:∃b,f=.bool b
    ·obtain⟨b,rfl⟩:=s;rcases c.ar8 with q|q
     ·exact absurd q (m b)
     ·exact absurd q (y _)
    ·have F:(match E f with|some (.bool b)=>E b|_=>Y:Option Bool)=Y:=by cases f<;>first|rfl|exact absurd ⟨_,rfl⟩ s
     exact(ahV (λz:Option Bool=>z==E a) F).trans rfl
def TR.put{e t t' d o v v'}(h:TR e t t')(g:VR e v v'):∃a,Act.put ⟨⟨t'⟩,d⟩ o v'=⟨⟨a⟩,d⟩/\TR e (bK t o v) a:=by cases o with
 |none=>exact⟨t',rfl,h⟩
 |some i=>exact⟨t'.set ..,by simp[Act.put],h.set g i⟩
def FC{sym d v}(h:(gk sym d v).2=Z):(gk sym d v).1=v:=by
 unfold gk at h ⊢;split
 ·rfl
 ·split
  ·rfl
  ·rename_i b a;simp[a] at h;split
   ·cases b<;>simp at h<;>rw[h]
   ·rfl
def o8 h:∀new(j:Nat),A (c8 h j new)=A h:=by
 intro new;induction new generalizing h with
 |nil=>intro j;rfl
 |cons b c a=>intro j;rw[c8,a];simp
def jr:∀new(h:List Blk)j i,(c8 h j new)[i]?=if j<=i/\i<j+A new/\i<A h then new[i-j]? else h[i]?
 | [],h,j,i=>by simp only[c8,List.length_nil,ajf];rw[acB (by omega)]
 |b::c,h,j,i=>by
  rw[c8,jr ..];simp[ajT,agM];by_cases f:j+1<=i/\i<j+1+A c/\i<A h
  ·rw[ae8 f,ae8 (by omega),show i-j=(i-(j+1))+1 by omega,ag0]
  ·rw[acB f];by_cases a:i=j
   ·subst a;by_cases g:i<A h
    ·rw[acg g,ae8 (by omega),Nat.sub_self];rfl
    ·rw[acB (by omega),afs (by simp;omega),afs (by omega)]
   ·rw[abI (Ne.symm a),acB (by omega)]
def U8{G sym eZ k ops o s s'}(e:Fi P G sym eZ k ops o s=E s')(h:s'.ob=Z):s.ob=Z:=by
 unfold Fi at e;split at e
 ·split at e
  ·cases e;simp[av] at h;exact h.1.1
  ·cases e
 ·cases e;exact h
 ·cases e
def om{G a eZ k ops}:∀is(s s':St),cg P G a eZ k ops is s=E s'->s'.ob=Z->s.ob=Z
 | [],s,s',e,h=>by simp[cg,Mf] at e;subst e;exact h
 |i::is,s,s',e,h=>by
  simp[cg] at e;split at e
  ·exact om is s s' e h
  ·split at e
   ·rename_i c b;exact U8 b (om is c s' e h)
   ·cases e
def zO{G}(z:o7 P G){y eZ k n ro ops o i}(hi:ops[i]?=E o){s s'}(g:Fi P G y eZ k ops o s=E s')(x:s'.ob=Z)
  {B e w t' d Q K}(H:∀i p,B.e.r i=E p->i<k)(f:TR e s.t t')(R:bM B e s.h w)
  (u:∀e' w' a,e'.m=e.m->TR e' s'.t a->bM B e' s'.h w'->K ⟨⟨a⟩,d⟩ w'):wpOpIn (wF ro) n P ops Q i K ⟨⟨t'⟩,d⟩ w:=by
 unfold Fi at g;unfold wpOpIn;rw[hi];simp[];split at g
 ·rename_i l;rw[ae8 (fJ f l)];split at g
  ·rename_i r v;cases g;simp[av] at x;refine tY z v x.1.2 (.inl rfl) H f R λe' J w' F D c=>?_;rw[FC x.2] at u;have⟨a,q,b⟩:=TR.put (d:=d) (o:=o.dst) (c.zI f) F;rw[q];exact u e' w' a c.m b D
  ·cases g
 ·rename_i l;cases g;rw[acB (by rw[fJ f l];simp)];have⟨a,q,b⟩:=TR.put (d:=d) (o:=o.dst) f (VR.empty (e:=e));rw[q];exact⟨λ_ _=>trivial,u e w a rfl b R⟩
 ·cases g
end
def Pw(h h2:List Blk):Prop:=∀(i:Nat)a,h[i]?=E (.b a)->h2[i]?=E (.b a)
def me(g:FuncId->Nat)(G:ct):Prop:=
 (∀f,g f=0->∀b h j v c new p,G (.func f) b h j=E (v,c,new,p)->c=h/\∀a,G (.func f) b a j=E (v,a,new,p))/\
 (∀f,g f=1->∀b h j v c new p,G (.func f) b h j=E (v,c,new,p)->c=h/\∀a,Pw h a->G (.func f) b a j=E (v,a,new,p))
section
variable {P:Program}
def l5{t t'}:∀{xs},(∀x∈xs,ev t x=ev t' x)->uP t xs=uP t' xs
 | [],_=>rfl
 |x::xs,h=>by simp[uP,h x (by simp),l5 (xs:=xs) λy a=>h y (by simp[a])]
def wX{t t' y}(a:∀z,y=E z->ev t z=ev t' z):Q1 t y=Q1 t' y:=by cases y with
 |none=>rfl
 |some z=>simp[Q1,a z rfl]
theorem l6{G eZ k j t t' h} o(e:∀x∈o.op.operands,ev t x=ev t' x):oL P G eZ k t h j o=oL P G eZ k t' h j o:=by
 unfold oL;generalize o.op=op at e ⊢;cases op<;>simp only[Op.operands] at e<;>simp only;case build ty ps=>rw[l5 λx g=>e x (by simpa using g)]
 case buildSlice ty len ps=>rw[l5 λx g=>e x (by simpa using g)]
 case makeSlice ty l c=>rw[e l (by simp),e c (by simp)]
 case makeFunc fn a b=>rw[l5 λx g=>e x (by simp[Array.mem_toList_iff.1 g]),l5 λx g=>e x (by simp[Array.mem_toList_iff.1 g])]
 case slice ty x lo hi mx=>
  rw[e x (by simp),wX (λz p=>e z (by subst p;simp)),wX (λz p=>e z (by subst p;simp)),wX (λz p=>e z (by subst p;simp))]
 case call c=>
  have h1:=l5 (xs:=c.args.toList) λx g=>e x (by simp[Call.operands,Array.mem_toList_iff.1 g])
  have h2:∀f,c.callee=.value f->ev t f=ev t' f:=λf hf=>e f (by simp[Call.operands,hf])
  rw[h1]
  cases iB:c.callee with
  |value f=>simp only;rw[h2 f iB]
  |invoke r m=>rfl
  |builtin b=>cases b<;>rfl
 case pick c a b=>rw[e c (by simp),e a (by simp),e b (by simp)]
 case store ty a v=>rw[e a (by simp),e v (by simp)]
 case binOp op T x y T'=>rw[e x (by simp),e y (by simp)]
 case indexAddr T x i=>rw[e x (by simp),e i (by simp)]
 case index T x i=>rw[e x (by simp),e i (by simp)]
 all_goals first
  |rfl
  |(rw[e _ (by simp)])
def ajx{t d v x}(h:∀i,d=E i->x≠.tmp i):ev (bK t d v) x=ev t x:=by cases d with
 |none=>rfl
 |some i=>cases x with
  |tmp j=>
   have:i≠j:=λq=>h i rfl (by rw[q])
   simp[ev,bK,abI this]
  |_=>rfl
def fH{ops o t d v}(h:∀i,d=E i->i ∉ o.looksAt ops):eC ops (bK t d v) o=eC ops t o:=by
 unfold eC;cases a:o.guard with
 |none=>rfl
 |some g=>have⟨j,b⟩:=g;simp only[];cases c:(ops.toList[j]?).bind (·.dst) with
  |none=>rfl
  |some k=>
   simp[]
   cases d with
   |none=>rfl
   |some i=>
    have f:ops[j]?=ops.toList[j]? :=by simp
    have:i≠k:=λq=>h i rfl (by simp only[Oper.looksAt,a,agl];right;rw[f,c,q];simp)
    simp[bK,abI this]
def kI{ops}{o:Oper}{t d v}(a:∀i,d=E i->i ∉ o.looksAt ops):∀x∈o.op.operands,ev (bK t d v) x=ev t x:=by intro x c;apply ajx;intro i b q;subst q;exact a i b (by simp only[Oper.looksAt,agl,List.mem_filterMap];exact .inl ⟨_,Array.mem_toList_iff.2 c,rfl⟩)
def fL{t t' o}(e:∀x∈o.operands,ev t x=ev t' x):j5 t o=j5 t' o:=by cases o<;>simp only[j5,Op.operands] at e ⊢ <;>rw[e _ (by simp)]
def jt{t a b} u v(h:∀d,a=E d->b≠E d):bK (bK t a u) b v=bK (bK t b v) a u:=by cases a with
 |none=>rfl
 |some i=>cases b with
  |none=>rfl
  |some j=>
   have:i≠j:=λq=>h i rfl (by rw[q])
   exact List.set_comm _ _ this
theorem qY{Γ:cu}{G:ct}(hG:me Γ.pf G){eZ:Tmp->Bool}{k j:Nat}{t:List (Option SV)}{h:List Blk}{r:m6}{o:Oper}(i:dO P Γ.pf o.op=0)(e:oL P G eZ k t h j o=some r):
  r.h=h/\r.lU=none/\∀h2,oL P G eZ k t h2 j o=some {r with h:=h2}:=by
 have l:∀{α:Type}{x:Option α}{f:α->SV×Bool},x.map (λa=>m6.of h (f a))=some r->r.h=h/\r.lU=none/\∀h2,x.map (λa=>m6.of h2 (f a))=some {r with h:=h2}:=λ{α x f} hx=>by
  obtain⟨a,y,rfl⟩:=aaC.1 hx
  exact⟨rfl,rfl,λh2=>by rw[y];rfl⟩
 unfold oL at e ⊢
 generalize o.op=op at e i ⊢
 cases op<;>simp only[dO] at i<;>simp only at e ⊢
 case load=>cases i
 case store=>cases i
 case slice=>cases i
 case convert src dst x=>
  cases p:Nat.beq src dst
  case true=>rw[p] at i;cases i
  simp only[p] at i e ⊢
  have J:UO P src dst=false:=by
   split at i
   ·cases i
   ·assumption
  have s:∀e,P.underlying src=some (.slice e)->P.underlying dst=some .string->False:=λe n h2=>by
   unfold UO at J
   rw[n,h2] at J
   cases J
  generalize ev t x=z at e
  unfold zx at e ⊢
  split at e
  ·split at e
   ·rename_i hd
    split at e
    ·split at e
     ·cases e;exact⟨rfl,rfl,λh2=>rfl⟩
     ·cases e
    ·cases e
   ·exact l (f:=λv=>(v,true)) e
  ·exact l (f:=λv=>(v,true)) e
  ·split at e
   ·rename_i n h2
    exact(s _ n h2).elim
   ·cases e
  ·split at e
   ·rename_i n h2 _ _
    exact(s _ n h2).elim
   ·cases e
  ·cases e
 case call c=>
  cases F:c.callee with
  |invoke rr m=>rw[F] at e;cases e
  |value f=>
   rw[F] at e i
   simp only at e i ⊢
   split at e
   ·rename_i f' first nM vs L hvs
    split at e
    case h_2=>cases e
    obtain⟨⟨v,h',new,q⟩,hg,rfl⟩:=aaC.1 e
    cases f with
    |func g=>
     simp only[ev,Mf,SV.fn.injEq] at L
     obtain⟨rfl,rfl,rfl⟩:=L
     simp only at i
     have h0:Γ.pf g=0:=by
      split at i
      ·assumption
      ·cases i
      ·cases i
     obtain⟨n,h2⟩:=hG.1 g h0 _ _ _ _ _ _ _ hg
     exact⟨n,rfl,λh3=>by rw[h2 h3];rfl⟩
    |_=>simp at i
   ·cases e
  |builtin b=>
   rw[F] at e i
   cases b<;>simp only at e i ⊢
   case len=>
    split at e
    ·exact l (f:=λv=>(v,true)) e
    ·cases e
   case cap=>
    split at e
    ·exact l (f:=λv=>(v,true)) e
    ·cases e
   case min=>
    split at e
    ·exact l (f:=λn=>(_,true)) e
    ·cases e
   all_goals first|cases e|cases i
 all_goals first
  |(cases e;done)
  |exact l (f:=λv=>(v,true)) e
  |exact l (f:=λq=>q) e
  |(obtain⟨a,y,rfl⟩:=aaC.1 e;exact⟨rfl,rfl,λh2=>by rw[y];rfl⟩)
  |(split at e<;>first
    |(cases e;done)
    |exact l (f:=λv=>(v,true)) e
    |exact l (f:=λq=>q) e
    |(cases e;exact⟨rfl,rfl,λh2=>rfl⟩)
    |(obtain⟨a,y,rfl⟩:=aaC.1 e;exact⟨rfl,rfl,λh2=>by rw[y];rfl⟩)
    |(split at e<;>first|(cases e;done)|(rename_i H;cases e;exact⟨rfl,rfl,λh2=>by first|rfl|(rw[ae8 H];rfl)⟩)))
def vt{h h2}{a:SV}(k:∀b,(match E a with|some (.sl b _ _ _ _ _ _ _)=>E b|some (.b9 b _ _ _ _)=>E b|_=>Y)=E b->h2[b]?=h[b]?):dN h2 a=dN h a:=by cases a with
 |b9 b z f cap m=>simp[dN];rw[k b rfl]
 |sl b o i z f cap m wh=>simp[dN];rw[k b rfl]
 |nl v=>cases v with
  |slice a l c=>cases l<;>rfl
  |_=>rfl
 |_=>rfl
def Ls{h h2 src dst q r}(k:∀a,q=E a->dN h2 a=dN h a)(e:zx P h src dst q=E r):
  r.h=h/\r.new=[]/\r.lU=Y/\zx P h2 src dst q=E {r with h:=h2}:=by
 have b:∀{α}{x:Option α}{f:α->SV×Bool},x.map (λa=>m6.of h (f a))=E r->r.h=h/\r.new=[]/\r.lU=Y/\x.map (λa=>m6.of h2 (f a))=E {r with h:=h2}:=λ{α x f} i=>by obtain⟨a,g,rfl⟩:=aaC.1 i;exact⟨rfl,rfl,rfl,by rw[g];rfl⟩
 unfold zx at e ⊢;cases q with
 |none=>cases e
 |some a=>
  have g:=k a rfl
  split at e
  ·split at e
   ·split at e
    ·split at e
     ·cases e;exact⟨rfl,rfl,rfl,rfl⟩
     ·cases e
    ·cases e
   ·exact b e
  ·exact b e
  ·split at e
   ·split at e
    ·cases e;exact⟨rfl,rfl,rfl,rfl⟩
    ·cases e
   ·cases e
  ·rename_i c
   cases c
   rw[g]
   split at e
   ·split at e
    ·cases e;exact⟨rfl,rfl,rfl,rfl⟩
    ·cases e
   ·cases e
  ·cases e
theorem jR{N G eZ k j t h r o}(g:dO P N o.op=1)(e:oL P G eZ k t h j o=E r):
  r.h=h/\r.new=[]/\r.lU=Y/\∀h2,(∀b,j5 t o.op=E b->h2[b]?=h[b]?)->oL P G eZ k t h2 j o=E {r with h:=h2}:=by
 have s:∀{x y:Option (SV×Bool)}{h2},x.map (m6.of h)=E r->y=x->r.h=h/\y.map (m6.of h2)=E {r with h:=h2}:=λ{x y h2} n M=>by
  obtain⟨a,J,rfl⟩:=aaC.1 n
  exact⟨rfl,by rw[M,J];rfl⟩
 have q:∀{x:Option (SV×Bool)},x.map (m6.of h)=E r->r.new=[]/\r.lU=Y:=λ{x} n=>by
  obtain⟨a,_,rfl⟩:=aaC.1 n
  exact⟨rfl,rfl⟩
 unfold oL at e ⊢
 generalize o.op=op at e g ⊢
 cases op<;>simp only[dO] at g<;>simp only[j5] at e ⊢
 case load ty x=>
  split at e
  ·rename_i a n
   have F:∀h2,(∀b,(match E a with|some (.aG b _ _)=>E b|some (.fk b _ _ _ _)=>E b|_=>Y)=E b->h2[b]?=h[b]?)->xF P ty h2 a=xF P ty h a:=λh2 f=>by
    cases a with
    |aG b o i=>simp only[xF];rw[f b rfl]
    |fk b z e o i=>simp only[xF];rw[f b rfl]
    |_=>rfl
   refine⟨(s (h2:=h) e rfl).1,(q e).1,(q e).2,λh2 f=>(s e (F h2 ?_)).2⟩
   rw[n] at f;exact f
  ·cases e
 case slice ty x lo hi mx=>
  split at e
  ·rename_i a l u m n Q R S
   have F:∀h2,(∀b,(match E a with|some (.aG b _ _)=>E b|some (.fk b _ _ _ _)=>E b|_=>Y)=E b->h2[b]?=h[b]?)->nP P ty h2 a l u m=nP P ty h a l u m:=λh2 f=>by
    unfold nP
    split
    ·rename_i b o i _
     rw[f b rfl]
    all_goals rfl
   have p:∀h2,(∀b,(match E a with|some (.aG b _ _)=>E b|some (.fk b _ _ _ _)=>E b|_=>Y)=E b->h2[b]?=h[b]?)->qM P ty h2 a l u m=qM P ty h a l u m:=λh2 f=>by
    unfold qM
    split
    ·rename_i b z v cap K
     have L:nP P ty h2 (.sl b 0 0 z v cap K I) Y u m=nP P ty h (.sl b 0 0 z v cap K I) Y u m:=by
      unfold nP
      cases P.underlying ty with
      |none=>rfl
      |some d=>cases d<;>rfl
     cases l with
     |none=>simp only[L]
     |some _=>rfl
    ·exact F h2 f
   have H:∀h2,(∀b,(match E a with|some (.aG b _ _)=>E b|some (.fk b _ _ _ _)=>E b|_=>Y)=E b->h2[b]?=h[b]?)->nQ P ty h2 a l u m=nQ P ty h a l u m:=λh2 f=>by
    cases a<;>first|rfl|exact p h2 f|(simp only[nQ];split<;>first|rfl|exact p h2 f)
   split at e
   ·refine⟨(s (h2:=h) e rfl).1,(q e).1,(q e).2,λh2 f=>(s e (H h2 ?_)).2⟩
    rw[n] at f;exact f
   refine⟨(s (h2:=h) e rfl).1,(q e).1,(q e).2,λh2 f=>(s e (p h2 ?_)).2⟩
   rw[n] at f;exact f
  ·cases e
 case convert src dst x=>
  cases D:Nat.beq src dst
  case true=>rw[D] at g;cases g
  simp only[D] at g e ⊢
  have c0:=Ls (h2:=h) (λ_ _=>rfl) e
  refine⟨c0.1,c0.2.1,c0.2.2.1,λh2 f=>(Ls (h2:=h2) (λa J=>vt ?_) e).2.2.2⟩
  rw[J] at f;exact f
 case call c=>
  exfalso
  split at g
  ·split at g<;>cases g
  ·cases g
  ·cases g
  ·cases g
  ·cases g
 all_goals first|(cases g;done)|(split at g<;>first|(cases g;done)|(split at g<;>cases g))
theorem oo{N G eZ k j t h r o}(p:dO P N o.op=2)(e:oL P G eZ k t h j o=E r):
  r.new=[]/\r.lU=Y/\∃b ps ps',j5 t o.op=E b/\h[b]?=E (.b ps)/\r.h=h.set b (.b ps')/\∀h2,h2[b]?=h[b]? ->oL P G eZ k t h2 j o=E {r with h:=h2.set b (.b ps')}:=by
 unfold oL at e ⊢
 generalize o.op=op at e p ⊢
 cases op<;>simp only[dO] at p<;>simp only[j5] at e ⊢
 case store ty x y=>
  split at e
  ·rename_i a v Q V
   obtain⟨⟨U,q⟩,f,rfl⟩:=aaC.1 e
   refine⟨rfl,rfl,?_⟩
   rw[Q]
   cases a with
   |aG b o i=>
    unfold jP at f
    simp only at f
    cases s:h[b]? with
    |none=>rw[s] at f;cases f
    |some S=>
     cases S with
     |g _=>rw[s] at f;cases f
     |b ps=>
      rw[s] at f
      simp only at f
      split at f
      ·rename_i H
       split at f
       ·rename_i D R K
        split at f
        ·rename_i m
         have⟨ps',J,u⟩:=aaC.1 f
         simp only[aad] at u
         have⟨rfl,rfl⟩:=u
         refine⟨b,ps,ps',rfl,s,rfl,λh2 l=>?_⟩
         have:jP P ty h2 (.agg D) (.aG b o 0)=E (h2.set b (.b ps'),Z):=by
          unfold jP
          simp only[l,s,H,K,m,akk,J,acs]
         rw[this];rfl
        ·cases f
       ·cases f
      ·rename_i H
       split at f
       ·rename_i m
        have⟨D,J,u⟩:=aaC.1 f
        simp only[aad] at u
        have⟨rfl,rfl⟩:=u
        refine⟨b,ps,D.1,rfl,s,rfl,λh2 l=>?_⟩
        have:jP P ty h2 v (.aG b o i)=E (h2.set b (.b D.1),D.2):=by
         unfold jP
         simp only[l,s,H,m,akk,J,acs]
        rw[this];rfl
       ·cases f
      ·cases f
   |fk b z F o i=>
    unfold jP at f
    simp only at f
    split at f
    ·rename_i T n g s
     split at f
     ·rename_i M H
      split at f
      ·rename_i D R K
       split at f
       ·rename_i m
        have⟨ps',J,u⟩:=aaC.1 f
        simp only[aad] at u
        have⟨rfl,rfl⟩:=u
        refine⟨b,_,[.aF z n λi=>bF (Nat.beq i F) ps' (g i)],rfl,s,rfl,λh2 l=>?_⟩
        have:jP P ty h2 (.agg D) (.fk b z F o 0)=E (h2.set b (.b [.aF z n λi=>bF (Nat.beq i F) ps' (g i)]),C (F<n)):=by
         unfold jP
         simp only[l,s,M,H,K,m,akk,J,acs]
        rw[this];rfl
       ·cases f
      ·cases f
     ·rename_i M H
      split at f
      ·rename_i m
       have⟨D,J,u⟩:=aaC.1 f
       simp only[aad] at u
       have⟨rfl,rfl⟩:=u
       refine⟨b,_,[.aF z n λi=>bF (Nat.beq i F) D.1 (g i)],rfl,s,rfl,λh2 l=>?_⟩
       have:jP P ty h2 v (.fk b z F o i)=E (h2.set b (.b [.aF z n λi=>bF (Nat.beq i F) D.1 (g i)]),D.2&&C (F<n)):=by
        unfold jP
        simp only[l,s,M,H,m,akk,J,acs]
       rw[this];rfl
      ·cases f
     ·cases f
    ·cases f
   |_=>simp[jP] at f
  ·cases e
 case call c=>
  exfalso
  split at p
  ·split at p<;>cases p
  ·cases p
  ·cases p
  ·cases p
  ·cases p
 all_goals first|(cases p;done)|(split at p<;>first|(cases p;done)|(split at p<;>cases p))
theorem zP{Γ:cu}{G}(hG:me Γ.pf G){eZ k j t h r o}(a:dO P Γ.pf o.op=4)(e:oL P G eZ k t h j o=E r):r.h=h/\∀h2,Pw h h2->oL P G eZ k t h2 j o=E {r with h:=h2}:=by
 unfold oL at e ⊢
 generalize o.op=op at e a
 cases op<;>simp only[dO] at a<;>simp only at e ⊢
 case call c=>
  cases n:c.callee with
  |invoke rr m=>rw[n] at e;cases e
  |value f=>
   rw[n] at e a
   simp only at e a ⊢
   split at e
   ·rename_i f' first nM vs hf hvs
    split at e
    case h_2=>cases e
    obtain⟨⟨v,h',new,q⟩,hg,rfl⟩:=aaC.1 e
    cases f with
    |func g=>
     simp only[ev,Mf,SV.fn.injEq] at hf
     have⟨rfl,rfl,rfl⟩:=hf
     simp only at a
     have h0:Γ.pf g=1:=by
      split at a
      ·cases a
      ·assumption
      ·cases a
     have⟨h1,h2⟩:=hG.2 g h0 _ _ _ _ _ _ _ hg
     exact⟨h1,λh3 p=>by rw[h2 h3 p];rfl⟩
    |_=>simp at a
   ·cases e
  |builtin b=>rw[n] at a;cases b<;>cases a
 all_goals first|(cases a;done)|(split at a<;>first|(cases a;done)|(split at a<;>cases a))
def p9 nb(ops:List Oper) i o(hi:ops[i]?=E o):kN nb (ops.take (i+1))=kN nb (ops.take i)+sZ nb o.op:=by
 have:ops.take (i+1)=ops.take i++[o]:=by rw[List.take_add_one,hi];rfl
 simp[kN,this]
def I5 nb(ops:List Oper){i j}(h:i<=j):kN nb (ops.take i)<=kN nb (ops.take j):=by induction j with
 |zero=>obtain rfl:i=0:=by omega
        exact aar _
 |succ j g=>
  by_cases a:i=j+1
  ·subst a;exact aar _
  ·have f:=g (by omega);cases b:ops[j]? with
   |none=>
    have:ops.take (j+1)=ops.take j:=by rw[List.take_add_one,b];simp
    rw[this];exact f
   |some o=>rw[p9 nb ops j o b];omega
def o9{nb ops n i j x}(hi:ops[i]?=E x)(a:i<j):ei nb ops n i+sZ nb x.op<=ei nb ops n j:=by unfold ei;have b:=p9 nb ops i x hi;have c:=I5 nb ops (i:=i+1) a;omega
def Lt{nb ops n i}:n<=ei nb ops n i:=Nat.le_add_right _ _
def zQ{nb ops n i m t o}(h:mD nb ops n m i t o=Z){b}(k:j5 t o=E b):
  b<n\/∃j x,j<i/\(X m i 0).testBit j=Z/\ops[j]?=E x/\ei nb ops n j<=b/\b<ei nb ops n j+sZ nb x.op:=by
 unfold mD at h;rw[k] at h;simp only[agV,afJ,aaI,No] at h;rcases h with h|⟨j,f,g,a⟩
 ·exact .inl (aeN h)
 ·split at a
  ·rename_i x c;simp only[No] at a;exact .inr ⟨j,x,f,g,c,aeN a.1,aeN a.2⟩
  ·cases a
def eR{h}:∀{n j},mE h j n=Z↔∀i,i<n->h[j+i]?=E .gap
 |0,j=>by simp[mE]
 |n+1,j=>by
  simp[mE,No,eR];constructor
  ·rintro⟨c,f⟩ i g;cases i with
   |zero=>
    rw[ajf]
    split at c
    ·assumption
    ·cases c
   |succ i=>rw[show j+(i+1)=j+1+i by omega];exact f i (by omega)
  ·intro a
   refine⟨?_,λi g=>?_⟩
   ·have:=a 0 (by omega);rw[ajf] at this;rw[this]
   ·have:=a (i+1) (by omega);rw[show j+(i+1)=j+1+i by omega] at this;exact this
def fI{h new j i}(hi:i<j\/j+A new<=i):(c8 h j new)[i]?=h[i]? :=by rw[jr,acB (by omega)]
def I6{h a b i j}(f:i+A a<=j\/j+A b<=i):c8 (c8 h i a) j b=c8 (c8 h j b) i a:=by
 apply agh;intro x;simp[jr,o8];by_cases c:j<=x/\x<j+A b/\x<A h
 ·rw[ae8 c,acB (by omega),ae8 c]
 ·rw[acB c,acB c]
def r8{h a i b f}(g:b<i\/i+A a<=b):c8 (h.set b f) i a=(c8 h i a).set b f:=by
 apply agh;intro x;simp[jr,List.getElem?_set,ajT,o8];by_cases c:b=x
 ·subst c;rw[acB (by omega)];simp
 ·simp[c,if_false]
def dA{Γ G k n i ops m t h h' v p new o}:IQ P Γ G k ops n m i t h o=E (v,h',p,new)↔
  mD Γ.nb ops n m i t o.op=Z/\∃r,oL P G (Fj Γ) k t h (ei Γ.nb ops n i) o=E r/\r.lU=Y/\A r.new=sZ Γ.nb o.op/\mE h (ei Γ.nb ops n i) (sZ Γ.nb o.op)=Z/\A r.h=A h/\v=r.v/\h'=c8 r.h (ei Γ.nb ops n i) r.new/\p=r.p/\new=r.new:=by
 unfold IQ;constructor
 ·intro g;split at g
  ·rename_i r c b;split at g
   ·rename_i a;simp[No,aac,Option.isNone_iff_eq_none] at a;simp[Mf,aad] at g;have⟨rfl,rfl,rfl,rfl⟩:=g;exact⟨c,r,b,a.1.1.1,a.1.1.2,a.1.2,a.2,rfl,rfl,rfl,rfl⟩
   ·cases g
  ·cases g
 ·rintro⟨c,r,b,l,q,s,f,rfl,rfl,rfl,rfl⟩;rw[c,b];simp only;have:(r.lU.isNone&&C (A r.new=sZ Γ.nb o.op)&&mE h (ei Γ.nb ops n i) (sZ Γ.nb o.op)&&C (A r.h=A h))=Z:=by simp[l,q,s,f]
  rw[this]
theorem U9{Γ G}(hG:me Γ.pf G){k n i F ops m x y t}(hx:ops[i]?=E x)(a1:i<F)(a7:(X m F 0).testBit i=I)
  (v:(aje (dO P Γ.pf x.op) (sZ Γ.nb x.op) (dO P Γ.pf y.op) (sZ Γ.nb y.op)||UP (dO P Γ.pf x.op) (j5 t x.op) (dO P Γ.pf y.op) (j5 t y.op))=Z){h h1 h2 vx vy px py wx wy}
  (e1:IQ P Γ G k ops n m i t h x=E (vx,h1,px,wx))(e2:IQ P Γ G k ops n m F t h1 y=E (vy,h2,py,wy)):
  ∃h',IQ P Γ G k ops n m F t h y=E (vy,h',py,wy)/\IQ P Γ G k ops n m i t h' x=E (vx,h2,px,wx):=by
 obtain⟨R,S,T,kx,nx,gx,lx,rfl,rfl,rfl,rfl⟩:=dA.1 e1
 obtain⟨U,u,oy,ky,ny,p,D,rfl,rfl,rfl,rfl⟩:=dA.1 e2
 have aG:=o9 (nb:=Γ.nb) (n:=n) hx a1
 have ar:∀b,j5 ..=E b->b<ei Γ.nb ops n i\/ei Γ.nb ops n i+A S.new<=b:=λb l=>by
  rw[nx]
  rcases zQ U l with h|⟨j,z,hj,h3,h4,h5,h6⟩
  ·have:=Lt (nb:=Γ.nb) (ops:=ops) (n:=n) (i:=i);omega
  ·rcases Nat.lt_trichotomy j i with q|q|q
   ·have:=o9 (nb:=Γ.nb) (n:=n) h4 q;omega
   ·subst q;rw[a7] at h3;cases h3
   ·have:=o9 (nb:=Γ.nb) (n:=n) hx q;omega
 have am:∀b,j5 ..=E b->b<ei Γ.nb ops n F:=λb l=>by
  rcases zQ R l with h|⟨j,z,hj,h3,h4,h5,h6⟩
  ·have:=Lt (nb:=Γ.nb) (ops:=ops) (n:=n) (i:=F);omega
  ·have:=o9 (nb:=Γ.nb) (n:=n) h4 (by omega);omega
 rw[agV] at v
 rcases v with v|v
 case inr=>
  unfold UP at v
  rw[No] at v
  have⟨ap,N⟩:=v
  simp only[agV,No,afP] at ap
  cases ad:j5 .. with
  |none=>rw[ad] at N;cases N
  |some bx=>
   cases ae:j5 .. with
   |none=>rw[ad,ae] at N;cases N
   |some O8=>
    rw[ad,ae] at N
    have Va:bx≠O8:=λq=>by
     subst q
     have:=Nat.beq_refl bx
     simp only[this] at N
     cases N
    have an:∀(c:dO P Γ.pf x.op=2),∃af,S.new=[]/\(∃ps,h[bx]?=E (.b ps))/\S.h=h.set bx (.b af)/\∀h2,h2[bx]?=h[bx]? ->oL P G (Fj Γ) k t h2 (ei Γ.nb ops n i) x=E {S with h:=h2.set bx (.b af)}:=λc=>by
     have⟨M,_,b,ps,W,l,ac,s,H⟩:=oo c T
     rw[ad] at l;cases l
     exact⟨W,M,⟨ps,ac⟩,s,H⟩
    have ao:∀{hh},oL P G (Fj Γ) k t hh (ei Γ.nb ops n F) y=E u->∀(c:dO P Γ.pf y.op=2),∃K,u.new=[]/\(∃ps,hh[O8]?=E (.b ps))/\u.h=hh.set O8 (.b K)/\∀h2,h2[O8]?=hh[O8]? ->oL P G (Fj Γ) k t h2 (ei Γ.nb ops n F) y=E {u with h:=h2.set O8 (.b K)}:=λoy c=>by
     have⟨M,_,b,ps,W,l,ac,s,H⟩:=oo c oy
     rw[ae] at l;cases l
     exact⟨W,M,⟨ps,ac⟩,s,H⟩
    have n0:∀{o},(dO P Γ.pf o.op=1\/dO P Γ.pf o.op=2)->∀{hh}{j}{r},oL P G (Fj Γ) k t hh j o=E r->r.new=[]:=λ{o} c{hh j r} ho=>by
     rcases c with c|c
     ·exact(jR c ho).2.1
     ·exact(oo c ho).1
    have ZT:S.new=[]:=n0 (by omega) T
    have oY:u.new=[]:=n0 (by omega) oy
    rw[ZT] at oy p D nx
    simp only[c8] at oy p D
    rw[oY] at ny
    have ab:sZ Γ.nb x.op=0:=nx.symm
    have Q:sZ Γ.nb y.op=0:=ny.symm
    have Vb:∀(hh:List Blk)(j:Nat),mE hh j 0=Z:=λ_ _=>rfl
    rcases ap with⟨c2,c1|c2'⟩|⟨c1,c2⟩
    ·have⟨af,_,_,s,H⟩:=an c2
     have⟨g,_,_,V⟩:=jR c1 oy
     have o2:=V h λb l=>by rw[ae] at l;cases l;rw[s,abI Va]
     refine⟨h,dA.2 ⟨U,{u with h:=h},o2,ky,by rw[oY,Q];rfl,by rw[Q];exact Vb _ _,rfl,rfl,by simp only;rw[oY];rfl,rfl,rfl⟩,dA.2 ⟨R,S,T,kx,by rw[ZT,ab];rfl,gx,lx,rfl,?_,rfl,rfl⟩⟩
     rw[g,oY,ZT];rfl
    ·have⟨af,_,⟨a9,ba⟩,s,H⟩:=an c2
     have⟨K,_,⟨aO,Pr⟩,g,V⟩:=ao oy c2'
     have o2:=V h (by rw[s,abI Va])
     have o1:=H (h.set O8 (.b K)) (by rw[abI (Ne.symm Va)])
     refine⟨h.set O8 (.b K),dA.2 ⟨U,_,o2,ky,by simp only;rw[oY,Q];rfl,by rw[Q];exact Vb _ _,by simp,rfl,by simp only;rw[oY];rfl,rfl,rfl⟩,dA.2 ⟨R,_,o1,kx,by simp only;rw[ZT,ab];rfl,by rw[ab];exact Vb _ _,by simp,rfl,?_,rfl,rfl⟩⟩
     simp only
     rw[g,s,oY,ZT]
     exact(List.set_comm _ _ Va)
    ·have⟨s,_,_,H⟩:=jR c1 T
     rw[s] at oy p D
     have⟨K,_,⟨aO,Pr⟩,g,V⟩:=ao oy c2
     have o1:=H (h.set O8 (.b K)) λb l=>by rw[ad] at l;cases l;rw[abI (Ne.symm Va)]
     refine⟨h.set O8 (.b K),dA.2 ⟨U,u,oy,ky,by rw[oY,Q];rfl,by rw[Q];exact Vb _ _,D,rfl,by rw[g,oY];rfl,rfl,rfl⟩,dA.2 ⟨R,_,o1,kx,by simp only;rw[ZT,ab];rfl,by rw[ab];exact Vb _ _,rfl,rfl,?_,rfl,rfl⟩⟩
     simp only
     rw[g,oY,ZT];rfl
 unfold aje at v
 simp only[agV,No,afP] at v
 by_cases cx:dO P Γ.pf x.op=0
 ·have⟨s,_,H⟩:=qY hG cx T
  rw[s] at oy p D
  have Lu:mE h (ei Γ.nb ops n F) (sZ Γ.nb y.op)=Z:=by
   rw[eR] at p ⊢
   intro a L
   have:=p a L
   rwa [fI (by rw[nx];omega)] at this
  have a3:∀h',(∀a,a<ei Γ.nb ops n F->h'[a]?=h[a]?)->mE h' (ei Γ.nb ops n i) (sZ Γ.nb x.op)=Z:=λh' hh=>by
   rw[eR] at gx ⊢
   intro a L
   rw[hh _ (by omega)];exact gx a L
  by_cases cy:dO P Γ.pf y.op=0
  ·have⟨g,_,V⟩:=qY hG cy oy
   refine⟨c8 h (ei Γ.nb ops n F) u.new,dA.2 ⟨U,{u with h:=h},V h,ky,ny,Lu,rfl,rfl,rfl,rfl,rfl⟩,dA.2 ⟨R,_,H _,kx,nx,a3 _ λa L=>fI (.inl L),rfl,rfl,?_,rfl,rfl⟩⟩
   rw[g]
   exact I6 (.inl (by rw[nx];exact aG))
  ·by_cases a0:dO P Γ.pf y.op=1
   ·have⟨g,M,_,V⟩:=jR a0 oy
    have:=V h λb l=>(fI (ar b l)).symm
    refine⟨h,dA.2 ⟨U,{u with h:=h},this,ky,ny,Lu,rfl,rfl,by rw[M];rfl,rfl,rfl⟩,dA.2 ⟨R,S,T,kx,nx,gx,lx,rfl,?_,rfl,rfl⟩⟩
    rw[g,M,s];rfl
   ·by_cases a2:dO P Γ.pf y.op=2
    ·have⟨M,_,b,ps,W,l,ac,g,V⟩:=oo a2 oy
     have ho:=ar b l
     have:=V h (fI ho).symm
     refine⟨h.set b (.b W),dA.2 ⟨U,_,this,ky,ny,Lu,by simp,rfl,by simp only;rw[M];rfl,rfl,rfl⟩,dA.2 ⟨R,_,H _,kx,nx,?_,rfl,rfl,?_,rfl,rfl⟩⟩
     ·rw[eR] at gx ⊢
      intro a L
      rw[abI (by rw[nx] at ho;omega)];exact gx a L
     ·rw[g,M]
      simp only[c8]
      exact(r8 ho).symm
    ·
     have al:sZ Γ.nb x.op=0:=by omega
     have J:S.new=[]:=abJ.1 (by omega)
     rw[J] at oy p D
     simp only[c8] at oy p D
     refine⟨_,dA.2 ⟨U,u,oy,ky,ny,Lu,D,rfl,rfl,rfl,rfl⟩,dA.2 ⟨R,_,H _,kx,nx,by rw[al];rfl,rfl,rfl,?_,rfl,rfl⟩⟩
     rw[J];rfl
 ·by_cases cy:dO P Γ.pf y.op=0
  ·have⟨g,_,V⟩:=qY hG cy oy
   by_cases aw:dO P Γ.pf x.op=1
   ·have⟨s,M,_,H⟩:=jR aw T
    rw[s,M] at oy p D g
    simp only[c8] at oy p D g
    refine⟨_,dA.2 ⟨U,u,oy,ky,ny,p,D,rfl,rfl,rfl,rfl⟩,?_⟩
    rw[g]
    have:=H (c8 h (ei Γ.nb ops n F) u.new) λb l=>fI (.inl (am b l))
    refine dA.2 ⟨R,_,this,kx,nx,?_,rfl,rfl,by simp only;rw[M];rfl,rfl,rfl⟩
    rw[eR] at gx ⊢
    intro a L
    rw[fI (.inl (by omega))];exact gx a L
   ·by_cases a5:dO P Γ.pf x.op=2
    ·have⟨M,_,b,ps,W,l,ac,s,H⟩:=oo a5 T
     rw[s,M] at oy p D g
     simp only[c8] at oy p D g
     have ho:=am b l
     refine⟨_,dA.2 ⟨U,_,V h,ky,ny,?_,rfl,rfl,rfl,rfl,rfl⟩,?_⟩
     ·rw[eR] at p ⊢
      intro a L
      have:=p a L
      rwa [abI (by omega)] at this
     ·have:=H (c8 h (ei Γ.nb ops n F) u.new) (fI (.inl ho))
      refine dA.2 ⟨R,_,this,kx,nx,?_,by simp,rfl,?_,rfl,rfl⟩
      ·rw[eR] at gx ⊢
       intro a L
       rw[fI (.inl (by omega))];exact gx a L
      ·simp only;rw[g,M]
       simp only[c8]
       exact r8 (.inl ho)
    ·by_cases t7:dO P Γ.pf x.op=4/\sZ Γ.nb x.op=0
     ·
      have⟨s,H⟩:=zP hG t7.1 T
      have Bj:S.new=[]:=abJ.1 (by omega)
      rw[s,Bj] at oy p D g
      simp only[c8] at oy p D g
      have a8:Pw h (c8 h (ei Γ.nb ops n F) u.new):=λa ps L=>by
       rw[jr,acB]
       ·exact L
       ·intro bb
        have:=(eR.1 p) (a-ei Γ.nb ops n F) (by rw[<-ny];omega)
        rw[show ei Γ.nb ops n F+(a-ei Γ.nb ops n F)=a by omega,L] at this
        cases this
      refine⟨_,dA.2 ⟨U,u,oy,ky,ny,p,D,rfl,rfl,rfl,rfl⟩,?_⟩
      rw[g]
      refine dA.2 ⟨R,_,H _ a8,kx,nx,by rw[t7.2];rfl,rfl,rfl,by simp only;rw[Bj];rfl,rfl,rfl⟩
     have al:sZ Γ.nb y.op=0:=by omega
     have J:u.new=[]:=abJ.1 (by omega)
     refine⟨h,dA.2 ⟨U,_,V h,ky,ny,by rw[al];rfl,rfl,rfl,by simp only;rw[J];rfl,rfl,rfl⟩,dA.2 ⟨R,S,T,kx,nx,gx,lx,rfl,?_,rfl,rfl⟩⟩
     rw[g,J];rfl
  ·
   have⟨⟨a6,a4⟩,ZT,oY⟩:((dO P Γ.pf x.op=1\/dO P Γ.pf x.op=4)/\(dO P Γ.pf y.op=1\/dO P Γ.pf y.op=4))/\sZ Γ.nb x.op=0/\sZ Γ.nb y.op=0:=by
    rcases v with(v|v)|v
    ·exact absurd v.1 cx
    ·exact absurd v.1 cy
    ·exact⟨⟨v.1.1.1,v.1.1.2⟩,v.1.2,v.2⟩
   have Bj:S.new=[]:=abJ.1 (by omega)
   have Ek:u.new=[]:=abJ.1 (by omega)
   have s:S.h=h:=by
    rcases a6 with c|c
    ·exact(jR c T).1
    ·exact(zP hG c T).1
   rw[s,Bj] at oy p D
   simp only[c8] at oy p D
   have g:u.h=h:=by
    rcases a4 with c|c
    ·exact(jR c oy).1
    ·exact(zP hG c oy).1
   refine⟨h,dA.2 ⟨U,u,oy,ky,ny,p,D,rfl,by rw[g,Ek];rfl,rfl,rfl⟩,dA.2 ⟨R,S,T,kx,nx,gx,lx,rfl,by rw[g,Ek,s,Bj];rfl,rfl,rfl⟩⟩
end
def FD b j:∀(c:List Edge)s,(c.foldl (λs e=>if Region.binds .any e then s|||2^e.on|||X b e.on 0 else s) s).testBit j=Z->
  s.testBit j=Z\/∃e∈c,Region.binds .any e=Z/\(j=e.on\/(X b e.on 0).testBit j=Z)
 | [],s,h=>.inl h
 |e::c,s,h=>by
  simp[List.foldl_cons] at h;rcases FD b j c _ h with a|⟨i,g,f,a⟩
  ·split at a
   ·rename_i f;simp[Nat.testBit_or,agV,Nat.testBit_two_pow,aac] at a;rcases a with(a|a)|a
    ·exact .inl a
    ·exact .inr ⟨e,by simp,f,.inl a.symm⟩
    ·exact .inr ⟨e,by simp,f,.inr a⟩
   ·exact .inl a
  ·exact .inr ⟨i,by simp[g],f,a⟩
def zR{l m i}(h:i<A l):X (l++m) i 0=X l i 0:=by rw[abQ,afy h,abQ]
def I7(ops:List Oper)(m:List Nat):Prop:=
 ∀i(o:Oper),i<A m->ops[i]?=E o->∀j,(X m i 0).testBit j=Z->∃e∈o.after.toList,Region.binds .any e=Z/\(j=e.on\/(e.on<i/\(X m e.on 0).testBit j=Z))
def zS:∀rest b(a:List Nat),A a=A b->I7 (b++rest) a->I7 (b++rest) (fA rest a)
 | [],_,a,_,h=>h
 |o::rest,b,a,p,h=>by
  have:b++o::rest=(b++[o])++rest:=by simp
  rw[this];apply zS rest (b++[o]) (a++[UQ a o]) (by simp[p]);rw[<-this];intro i x q f j g;rcases agP .. with h1|h1
  ·rw[zR h1] at g;have⟨e,n,l,c⟩:=h i x h1 f j g;refine⟨e,n,l,c.imp id λh3=>⟨h3.1,?_⟩⟩;rw[zR (by omega)];exact h3.2
  ·simp at q;have m:i=A a:=by omega
   subst m;rw[p,afE (aar _)] at f;simp at f;subst f
   simp[abQ,afE (aar _),Nat.sub_self,afZ,Option.getD_some] at g
   rcases FD a j _ 0 g with c|⟨e,n,l,c⟩
   ·simp at c
   ·refine⟨e,n,l,c.imp id λh3=>?_⟩
    have:e.on<A a:=by
     rcases agP e.on (A a) with h4|h4
     ·exact h4
     ·rw[abQ,afs h4] at h3;simp at h3
    exact⟨this,by rw[zR this];exact h3⟩
def I8(ops:List Oper)(a:Array Bool):Prop:=
 ∀j(o:Oper),ops[j]?=E o->a.getD j I=Z->∀e∈o.after.toList,Region.binds .any e=Z->a.getD e.on I=Z
def xL{ops m}(u:I7 ops m)(b:A m=A ops){a}(z:I8 ops a):∀n i(o:Oper),i<=n->ops[i]?=E o->
  (∀e∈o.after.toList,Region.binds .any e=Z->a.getD e.on I=Z)->∀j,(X m i 0).testBit j=Z->a.getD j I=Z:=by intro n;induction n with
 |zero=>
  intro i o D c l j s;have⟨e,p,k,g⟩:=u i o (by rw[b];exact(aaR.1 c).1) c j s
  rcases g with rfl|⟨g,_⟩
  ·exact l e p k
  ·omega
 |succ n y=>
  intro i o D c l j s
  have⟨e,p,k,g⟩:=u i o (by rw[b];exact(aaR.1 c).1) c j s
  rcases g with rfl|⟨g,x⟩
  ·exact l e p k
  ·have q:e.on<A ops:=by have:=(aaR.1 c).1;omega
   have f:=aaQ q
   exact y e.on _ (by omega) f (z e.on _ f (l e p k)) j x
def pg:∀rest(a:List Nat),A (fA rest a)=A a+A rest
 | [],a=>by simp[fA]
 |o::rest,a=>by rw[fA,pg rest];simp;omega
section
variable {P:Program}
theorem qZ{G k j t h r o}(N:BA o.op=Z)(e:oL P G (λ_=>I) k t h j o=E r)(L:r.new=[]):
  ∃b ps B,r.lU=E b/\h[b]?=E (.b ps)/\r.h=h.set b (.b B)/\fD b (h.set b (.b B))=Z/\
   ∀h2 Q,h2[b]?=h[b]? ->(∀c,Bg t o.op=E c->h2[c]?=h[c]?)->fD b (h2.set b (.b B))=Z->oL P G (λ_=>I) k t h2 Q o=E {r with h:=h2.set b (.b B)}:=by
 have⟨d,op,an,ad,al,gd⟩:=o
 simp only at N e ⊢
 unfold BA at N
 split at N
 case h_2=>cases N
 rename_i c
 split at N
 case h_2=>cases N
 rename_i iB
 have hd:(d.map λ_=>I).getD I=I:=by cases d<;>rfl
 unfold oL at e ⊢
 simp only[iB,hd] at e ⊢
 split at e
 case h_2=>cases e
 rename_i ty xt a b ae f
 have p:∀cc,(match E b with|some (.sl b _ _ _ _ _ _ _)=>E b|some (.b9 b _ _ _ _)=>E b|_=>Y)=E cc->Bg t (.call c)=E cc:=λcc y=>by
  cases R:c.args.toList with
  |nil=>rw[R] at f;cases f
  |cons a1 l1=>cases l1 with
   |nil=>
    rw[R] at f
    simp only[uP] at f
    split at f
    ·rename_i h1 h2;cases h2;cases f
    ·cases f
   |cons a2 l2=>cases l2 with
    |nil=>
     rw[R] at f
     simp only[uP] at f
     split at f
     ·rename_i u us h1 h2
      split at h2
      ·rename_i v S h3 h4
       cases h4;cases h2;cases f
       simp only[Bg,R,h3]
       exact y
      ·cases h2
     ·cases f
    |cons a3 l3=>
     exfalso
     have l:∀{T}{S},uP t T=E S->A S=A T:=by
      intro T
      induction T with
      |nil=>intro S h;cases h;rfl
      |cons x T ih=>
       intro S h
       simp only[uP] at h
       split at h
       ·rename_i h2;cases h;simp[ih h2]
       ·cases h
     have:=l f
     rw[R] at this
     simp at this
 unfold yC at e ⊢
 split at e
 ·rename_i el kk h1 h2
  unfold Dc at e ⊢
  split at e
  ·cases e;cases L
  ·rename_i s U l cap V m z am af
   split at e
   ·rename_i zz n g zs q ab
    split at e
    ·rename_i i
     cases e
     simp only[No] at i
     refine⟨s,_,_,rfl,q,rfl,i.2,λPx Q K M F=>?_⟩
     simp only[K,q,ab]
     rw[ae8 (by simp only[No];exact⟨i.1,F⟩)]
    ·cases e
   ·cases e
  ·cases e
 ·cases e
 ·rename_i el dd ac h1 h2
  split at e
  case h_2=>cases e
  rename_i z cy py ny hz zK oY
  split at e
  ·cases e;cases L
  ·rename_i s o0 i0 U l cap V wh
   split at e
   ·cases e;cases L
   ·split at e
    ·rename_i hh;cases hh
    ·split at e
     case h_2=>cases e
     rename_i cx px W
     split at e
     case isFalse=>
      split at e
      ·cases e;cases L
      ·cases e
     rename_i i
     cases e
     have q:∃ps,h[s]?=E (.b ps):=by
      simp only[dN] at W
      split at W
      ·rename_i ps J;exact⟨ps,J⟩
      ·cases W
     have⟨ps,J⟩:=q
     simp only[No] at i
     refine⟨s,ps,p8 cx cy,rfl,J,rfl,i.2,λPx Q K M F=>?_⟩
     have e1:=vt λcc y=>M cc (p cc y)
     have e2:dN Px (.sl s o0 i0 U l cap V wh)=dN h (.sl s o0 i0 U l cap V wh):=vt λcc y=>by cases y;exact K
     rw[e1,hz,zK,oY]
     simp only[e2,W]
     rw[ae8 (by simp only[No];exact⟨i.1,F⟩)]
  ·rename_i s U l cap V
   split at e
   ·cases e;cases L
   ·rename_i ao
    split at e
    ·rename_i qq H
     split at e
     ·rename_i zz n g q
      split at e
      ·rename_i i
       cases e
       simp only[No] at i
       refine⟨s,_,_,rfl,q,rfl,i.2,λPx Q K M F=>?_⟩
       have e1:=vt λcc y=>M cc (p cc y)
       rw[e1,hz,zK,oY]
       simp only[K,q,H]
       rw[ae8 (by simp only[No];exact⟨i.1,F⟩)]
      ·cases e
     ·cases e
    rename_i H
    split at e
    ·rename_i zz n g q
     split at e
     ·rename_i i
      cases e
      simp only[No] at i
      refine⟨s,_,_,rfl,q,rfl,i.2,λPx Q K M F=>?_⟩
      have e1:=vt λcc y=>M cc (p cc y)
      rw[e1,hz,zK,oY]
      simp only[K,q,H]
      rw[ae8 (by simp only[No];exact⟨i.1,F⟩)]
     ·split at e
      ·cases e;cases L
      ·cases e
    ·cases e
  ·cases e
 ·cases e
def r9{b t}{i:Nat}(h:oR b (t[i]?)=Z):(gS (E b) t)[i]?=t[i]? :=by simp[gS,afr];cases a:t[i]? with
 |none=>rfl
 |some x=>cases x with
  |none=>rfl
  |some v=>
   rw[a] at h
   simp[oR,af9] at h
   simp[h]
def zT{b t}{i:Nat}(h:oR b ((gS (E b) t)[i]?)=Z):oR b (t[i]?)=Z:=by simp[gS,afr] at h;cases a:t[i]? with
 |none=>rw[a] at h;cases h
 |some x=>cases x with
  |none=>rw[a] at h;cases h
  |some v=>
   rw[a] at h
   simp[acs] at h
   by_cases c:uses b v=Z
   ·rw[ae8 c] at h;cases h
   ·rw[acB c] at h;exact h
def si{b t d v}(h:uses b v=I):gS (E b) (bK t d v)=bK (gS (E b) t) d v:=by cases d with
 |none=>rfl
 |some i=>simp only[bK,gS,List.map_set,h];rfl
def nA{t}{d:Option Tmp}{v}{i:Nat}(h:∀j,d=E j->j≠i):(bK t d v)[i]?=t[i]? :=by cases d with
 |none=>rfl
 |some j=>exact abI (h j rfl)
def Lv{t t' ops}{o:Oper}(h:∀i∈o.looksAt ops,t'[i]?=t[i]?):∀x∈o.op.operands,ev t' x=ev t x:=by intro x a;cases x with
 |tmp i=>have:=h i (by simp only[Oper.looksAt,agl,List.mem_filterMap];exact .inl ⟨_,Array.mem_toList_iff.2 a,rfl⟩);simp[ev,this]
 |_=>rfl
def jS{ops o i}(h:i∈mF ops o):i∈o.looksAt ops:=by simp[Oper.looksAt,agl];refine .inr ?_;unfold mF at h;cases a:o.guard with
 |none=>rw[a] at h;cases h
 |some g=>
  rw[a] at h;have:ops[g.1]?=ops.toList[g.1]? :=by simp
  simp only[this];exact h
def pn{t t' ops o}(h:∀i∈mF ops o,t'[i]?=t[i]?):eC ops t' o=eC ops t o:=by unfold eC;cases b:o.guard with
 |none=>rfl
 |some g=>
  have⟨j,w⟩:=g;simp only;cases a:(ops.toList[j]?).bind (·.dst) with
  |none=>rfl
  |some i=>
   simp only
   rw[h i (by unfold mF;rw[b];simp only;rw[a];simp)]
def zU{b h}:fD b h=Z↔∀(i:Nat)x,h[i]?=E x->fD b [x]=Z:=by
 unfold fD;rw[aaB];constructor
 ·intro g i x a;simp[List.all_cons,List.all_nil,Bool.and_true];exact g x (ae9 a)
 ·intro g x c;have⟨i,a⟩:=List.getElem?_of_mem c;have:=g i x a;simpa only[List.all_cons,List.all_nil,Bool.and_true] using this
def FE{b r h new}(h1:fD b h=Z)(h2:fD b new=Z):fD b (c8 h r new)=Z:=by
 rw[zU] at h1 h2 ⊢;intro i x a;rw[jr] at a;split at a
 ·exact h2 _ x a
 ·exact h1 _ x a
def Bm{b r h new}(h1:fD b (c8 h r new)=Z)(c:∀i,i<A new->h[r+i]?=E .gap):fD b h=Z:=by
 rw[zU] at h1 ⊢;intro i x a;by_cases f:r<=i/\i<r+A new
 ·have:=c (i-r) (by omega);rw[show r+(i-r)=i by omega,a] at this;cases this;rfl
 ·refine h1 i x ?_;rw[jr,acB (by omega)];exact a
def FF{b r n}:abv b r n=Z↔b<r\/r+n<=b:=by
 unfold abv;rw[agV];constructor
 ·rintro(h|h)
  ·exact .inl (aeN h)
  ·exact .inr (aeN h)
 ·rintro(h|h)
  ·exact .inl (agO h)
  ·exact .inr (agO h)
def FG{Γ G}(f:me Γ.pf G){k n j ops m y t h v h1 p new}
  (a:dO P Γ.pf y.op=0\/dO P Γ.pf y.op=1)(e:IQ P Γ G k ops n m j t h y=E (v,h1,p,new)):
  h1=c8 h (ei Γ.nb ops n j) new/\A new=sZ Γ.nb y.op/\∀q,q<A new->h[ei Γ.nb ops n j+q]?=E .gap:=by
 obtain⟨i,s,b,o,c,g,u,rfl,rfl,rfl,rfl⟩:=dA.1 e;refine⟨?_,c,λq l=>(eR.1 g) q (by omega)⟩;rcases a with a|a
 ·rw[(qY f a b).1]
 ·rw[(jR a b).1]
def BP{Γ G}(J:me Γ.pf G){k n j ops m y t t' h b X v h1 p new}
  (H:∀x∈y.op.operands,ev t' x=ev t x)(f:dO P Γ.pf y.op=0\/dO P Γ.pf y.op=1/\∀d,j5 t y.op=E d->d≠b)(R:b<ei Γ.nb ops n j\/ei Γ.nb ops n j+sZ Γ.nb y.op<=b)
  (e:IQ P Γ G k ops n m j t h y=E (v,h1,p,new)):
  IQ P Γ G k ops n m j t' (h.set b X) y=E (v,c8 (h.set b X) (ei Γ.nb ops n j) new,p,new):=by
 obtain⟨M,D,s,q,F,z,Q,rfl,rfl,rfl,rfl⟩:=dA.1 e;have c:∀u o,oL ..=oL P G (Fj Γ) k t u o y:=λhh o=>l6 y H;have a:mD Γ.nb ops n m j t' y.op=Z:=by
  have:mD Γ.nb ops n m j t' y.op=mD Γ.nb ops n m j t y.op:=by unfold mD;rw[fL H]
  rw[this];exact M
 have FH:mE (h.set b X) (ei Γ.nb ops n j) (sZ Γ.nb y.op)=Z:=by
  rw[eR] at z ⊢
  intro i N
  rw[abI (by omega)]
  exact z i N
 rcases f with f|⟨f,L⟩
 ·have⟨K,_,g⟩:=qY J f s
  exact dA.2 ⟨a,{D with h:=h.set b X},by rw[c];exact g _,q,F,FH,rfl,rfl,rfl,rfl,rfl⟩
 ·have⟨K,S,_,g⟩:=jR f s
  exact dA.2 ⟨a,{D with h:=h.set b X},by rw[c];exact g _ λd l=>abI (Ne.symm (L d l)),q,F,FH,rfl,rfl,rfl,rfl,rfl⟩
def BQ{f g cls n r}(h:BJ f cls n r g=Z):∃b,f.a=E b/\(cls=0\/cls=1/\∀d,g.a=E d->d≠b)/\(∀x∈g.sl,oR b x=Z)/\uses b g.v=I/\fD b g.new=Z/\(b<r\/r+n<=b)/\∀c,f.c=E c->c<r\/r+n<=c:=by
 unfold BJ at h;split at h;case h_2=>cases h
 rename_i b p;simp[No,agV,afP,aaB,af9] at h
 have⟨⟨⟨⟨⟨i,y⟩,m⟩,u⟩,s⟩,h6⟩:=h
 refine⟨b,p,?_,y,m,u,FF.1 s,λc l=>?_⟩
 ·rcases i with i|⟨i,k⟩
  ·exact .inl i
  ·refine .inr ⟨i,λd o=>?_⟩
   rw[o] at k
   simp[af9] at k
   intro q
   subst q
   rw[Nat.beq_refl] at k
   cases k
 ·rw[l] at h6
  exact FF.1 h6
def ej{Γ G k n i ops m o s s1 f}:(eW P Γ G k ops n m i o s=E (s1,f)/\f.q=1)↔
  eC ops s.t o=E Z/\uX Γ o=I/\∃v h' p new,IQ P Γ G k ops.toList n m i s.t s.h o=E (v,h',p,new)/\
   s1=⟨bK s.t o.dst (gk Γ.sym o.dst v).1,h',aa (aa s.ob p) (gk Γ.sym o.dst v).2⟩/\f=⟨1,j5 s.t o.op,Y,(o.looksAt ops).map λi=>s.t[i]?,(gk Γ.sym o.dst v).1,new⟩:=by
 unfold eW;constructor
 ·rintro⟨e,g⟩;split at e
  ·rename_i b;split at e
   ·split at e
    ·split at e
     ·cases e;cases g
     ·cases e
    ·cases e
   ·rename_i c;split at e
    ·rename_i q u;have⟨v,h',p,new⟩:=q;cases e;exact⟨b,c,v,h',p,new,u,rfl,rfl⟩
    ·cases e
  ·cases e;cases g
  ·cases e
 ·rintro⟨b,c,v,h',p,new,l,rfl,rfl⟩;simp only[b,c,l];exact⟨trivial,trivial⟩
def eA{Γ G k n i ops m o s s1 f}:(eW P Γ G k ops n m i o s=E (s1,f)/\f.q=0)↔
  eC ops s.t o=E I/\s1=⟨bK s.t o.dst (.bP []),s.h,s.ob⟩/\f=⟨0,Y,Y,(mF ops o).map λi=>s.t[i]?,.bP [],[]⟩:=by
 unfold eW;constructor
 ·rintro⟨e,c⟩;split at e
  ·split at e
   ·split at e
    ·split at e
     ·cases e;cases c
     ·cases e
    ·cases e
   ·split at e
    ·cases e;cases c
    ·cases e
  ·rename_i b;cases e;exact⟨b,rfl,rfl⟩
  ·cases e
 ·rintro⟨b,rfl,rfl⟩;simp only[b];exact⟨trivial,trivial⟩
def ig{Γ G k n i ops m o s s1 f}:(eW P Γ G k ops n m i o s=E (s1,f)/\f.q=2)↔
  eC ops s.t o=E Z/\uX Γ o=Z/\∃r,oL P G (λ_=>I) k s.t s.h (ei Γ.nb ops.toList n i) o=E r/\r.new=[]/\
   s1=⟨bK (gS r.lU s.t) o.dst r.v,r.h,aa s.ob r.p⟩/\f=⟨2,r.lU,Bg s.t o.op,[],.bP [],[]⟩:=by
 unfold eW;constructor
 ·rintro⟨e,u⟩;split at e
  ·rename_i b;split at e
   ·rename_i l;split at e
    ·rename_i r c;split at e
     ·rename_i g;cases e;exact⟨b,l,r,c,g,rfl,rfl⟩
     ·cases e
    ·cases e
   ·split at e
    ·cases e;cases u
    ·cases e
  ·cases e;cases u
  ·cases e
 ·rintro⟨b,l,r,c,g,rfl,rfl⟩;simp only[b,l,c,g];exact⟨trivial,trivial⟩
def ot{Γ o}(h:uX Γ o=Z):BA o.op=Z:=by
 unfold uX at h;split at h
 ·assumption
 ·cases h
def pz{t t' o}(e:∀x∈o.operands,ev t x=ev t' x):Bg t o=Bg t' o:=by
 cases o<;>simp[Bg];rename_i c;split
 ·rename_i y x a;rw[e x (by
   have:x∈c.args.toList:=by rw[a];simp
   simp[Op.operands,Call.operands]
   simp[Array.mem_toList_iff.1 this])]
 ·rfl
def I9{Γ G}(hG:me Γ.pf G){k n i j ops m x y f g s s1 s2}(d1:∀d,x.dst=E d->d ∉ y.looksAt ops)(d2:∀d,x.dst=E d->y.dst≠E d)(d3:∀d,y.dst=E d->d ∉ x.looksAt ops)
  (hc:BJ f (dO P Γ.pf y.op) (sZ Γ.nb y.op) (ei Γ.nb ops.toList n j) g=Z)(e1:eW P Γ G k ops n m i x s=E (s1,f))(e2:eW P Γ G k ops n m j y s1=E (s2,g))(hf:f.q=2)(hg:g.q=1):
  ∃s',eW P Γ G k ops n m j y s=E (s',g)/\eW P Γ G k ops n m i x s'=E (s2,f):=by
 obtain⟨wx,gx,r,hr,hn,rfl,rfl⟩:=ig.1 ⟨e1,hf⟩;obtain⟨V,gy,v,h',p,new,L,rfl,rfl⟩:=ej.1 ⟨e2,hg⟩;have⟨b,ps,B,T,hb,hh,hu,J⟩:=qZ (ot gx) hr hn;have⟨b',Q,U,W,hv,F,K,D⟩:=BQ hc;simp[T,Mf] at Q;subst Q;simp only at U W hv F D V L e2;rw[T] at V L W U;
 have bR:∀q∈y.looksAt ops,oR ..=Z/\(bK (gS ..) x.dst r.v)[q]?=s.t[q]? :=λq u=>by have h0:=W _ (List.mem_map_of_mem u);have N:∀d,x.dst=E d->d≠q:=λd hd Vc=>d1 d hd (Vc▸u);rw[nA N] at h0;have h1:=zT h0;exact⟨h1,by rw[nA N,r9 h1]⟩
 have R:=λz hz=>(Lv (λq u=>(bR q u).2) z hz).symm;have hw:eC ops s.t y=E Z:=by rw[<-V];exact(pn λq u=>(bR q (jS u)).2).symm
 rw[hh] at L;obtain⟨rfl,nl,gp⟩:=FG hG (U.imp id λq=>q.1) L;have o1:=BP hG (X:=.b ps) R U K L;have tC:(s.h.set b (.b B)).set b (.b ps)=s.h:=by
  rw[List.set_set];apply agh;intro q;by_cases u:b=q
  ·subst u;rw[acg (aaR.1 hb).1,hb]
  ·rw[abI u]
 rw[tC] at o1;have FH:=λq u=>by have:=gp q u;rw[abI (by omega)] at this;exact this
 have H:c8 ..=(c8 s.h (ei Γ.nb ops.toList n j) new).set b (.b B):=r8 (by omega);refine⟨⟨bK s.t y.dst (gk Γ.sym y.dst v).1,c8 s.h (ei Γ.nb ops.toList n j) new,aa (aa s.ob p) (gk Γ.sym y.dst v).2⟩,?_,?_⟩
 ·have q:=(ej).2 ⟨hw,gy,v,_,p,new,o1,rfl,rfl⟩;rw[q.1];congr 2;simp only[T];refine Fp.mk.injEq .. |>.mpr ⟨rfl,fL R,rfl,?_,rfl,rfl⟩;exact aiw λq u=>(bR q u).2.symm
 ·have M:∀z∈x.op.operands,ev (bK s.t y.dst (gk Γ.sym y.dst v).1) z=ev s.t z:=kI d3;have ab:fD b ((c8 s.h (ei Γ.nb ops.toList n j) new).set b (.b B))=Z:=by rw[<-H];exact FE hu F
  have S:=J (c8 s.h (ei Γ.nb ops.toList n j) new) (ei Γ.nb ops.toList n i) (fI (by omega)) (λc hc=>fI (by have:=D c hc;omega)) ab;rw[<-l6 x M] at S;have q:=(ig (m:=m) (o:=x) (s:=⟨bK s.t y.dst (gk Γ.sym y.dst v).1,c8 s.h (ei Γ.nb ops.toList n j) new,aa (aa s.ob p) (gk Γ.sym y.dst v).2⟩) (Γ:=Γ)).2 ⟨by rw[fH d3];exact wx,gx,_,S,hn,rfl,rfl⟩;rw[q.1];congr 2
  ·simp only[T];refine St.mk.injEq .. |>.mpr ⟨?_,H.symm,?_⟩
   ·rw[si hv,jt _ _ (λd hd Ja=>d2 d Ja hd)]
   ·have:∀a c c' d,aa (aa (aa a c) c') d=aa (aa (aa a d) c) c':=by decide
    exact this _ _ _ _
  ·exact Fp.mk.injEq .. |>.mpr ⟨rfl,rfl,pz M,rfl,rfl,rfl⟩
def Jb{Γ G}(hG:me Γ.pf G){k n i j ops m x y f g s s1 s2}(d1:∀d,x.dst=E d->d ∉ y.looksAt ops)(d2:∀d,x.dst=E d->y.dst≠E d)(d3:∀d,y.dst=E d->d ∉ x.looksAt ops)
  (hc:BJ g (dO P Γ.pf x.op) (sZ Γ.nb x.op) (ei Γ.nb ops.toList n i) f=Z)(e1:eW P Γ G k ops n m i x s=E (s1,f))(e2:eW P Γ G k ops n m j y s1=E (s2,g))(hf:f.q=1)(hg:g.q=2):
  ∃s',eW P Γ G k ops n m j y s=E (s',g)/\eW P Γ G k ops n m i x s'=E (s2,f):=by
 obtain⟨wx,gx,v,h',p,new,hx,rfl,rfl⟩:=ej.1 ⟨e1,hf⟩;obtain⟨wy,gy,r,T,V,rfl,rfl⟩:=ig.1 ⟨e2,hg⟩;simp only at wy T;have⟨b,ps,B,S,hb,hh,hu,ae⟩:=qZ (ot gy) T V;have⟨b',N,mX,QV,hv,K,J,D⟩:=BQ hc;simp[S,Mf] at N;subst N;simp only at mX QV hv K D;have Pr:∀z∈y.op.operands,ev (bK s.t x.dst (gk Γ.sym x.dst v).1) z=ev ..:=kI d1;obtain⟨rfl,nl,gp⟩:=FG hG (mX.imp id λq=>q.1) hx;rw[l6 y Pr] at T;have M:=pz Pr;rw[M] at D;have W:s.h[b]?=(c8 s.h (ei Γ.nb ops.toList n i) new)[b]? :=(fI (by omega)).symm;have H:c8 ..=(c8 s.h (ei Γ.nb ops.toList n i) new).set b (.b B):=r8 (by omega);have FH:∀q,q<A new->(s.h.set b (.b B))[ei Γ.nb ops.toList n i+q]?=E .gap:=λq F=>by rw[abI (by omega)];exact gp q F
 obtain⟨b2,al,U,R,af,ab,QW,Lw⟩:=qZ (ot gy) T V;rw[S] at R;cases R;have ac:U=B:=by
  have h1:=hh.symm.trans ab;have h2:(_:List Blk)[b]?=(_:List Blk)[b]? :=ahV (λl:List Blk=>l[b]?) h1;have L:=(aaR.1 hb).1;rw[acg L,acg L] at h2;cases h2;rfl
 subst ac;have ad:=Lw s.h (ei Γ.nb ops.toList n j) W (λc hc=>(fI (by have:=D c hc;omega)).symm) (by
  refine Bm ?_ FH
  rw[H];exact QW)
 have bR:∀q∈x.looksAt ops,(bK (gS (E b) s.t) y.dst r.v)[q]?=s.t[q]? :=λq F=>by
  have h0:=QV _ (List.mem_map_of_mem F)
  rw[nA (λd hd Vc=>d3 d hd (Vc▸F)),r9 h0]
 have Q:∀z∈x.op.operands,ev (bK (gS (E b) s.t) y.dst r.v) z=ev s.t z:=Lv bR
 have o1:=BP hG (X:=.b U) Q mX J hx
 refine⟨⟨bK (gS (E b) s.t) y.dst r.v,s.h.set b (.b U),aa s.ob r.p⟩,?_,?_⟩
 ·have q:=(ig (m:=m)).2 ⟨by rw[<-fH d1];exact wy,gy,_,ad,V,rfl,rfl⟩
  rw[q.1]
  simp[S,M]
 ·have q:=(ej (i:=i) (ops:=ops) (m:=m) (o:=x) (s:=⟨bK (gS (E b) s.t) y.dst r.v,s.h.set b (.b U),aa s.ob r.p⟩) (Γ:=Γ)).2
   ⟨by rw[<-wx];exact pn λq F=>bR q (jS F),gx,v,_,p,new,o1,rfl,rfl⟩
  rw[q.1]
  congr 2
  ·simp only[S,hh]
   refine St.mk.injEq .. |>.mpr ⟨?_,H,?_⟩
   ·rw[si hv,jt _ _ (λd hd Ja=>d2 d Ja hd)]
   ·have:∀a c c' d,aa (aa (aa a d) c) c'=aa (aa (aa a c) c') d:=by decide
    exact this _ _ _ _
  ·exact Fp.mk.injEq .. |>.mpr ⟨rfl,fL Q,rfl,aiw λq F=>bR q F,rfl,rfl⟩
theorem Jc{Γ G}(hG:me Γ.pf G){k n i i' ops m x y f g}(hx:ops.toList[i]?=E x)(al:i<i')(am:(X m i' 0).testBit i=I)
  (ab:x.apart ops y=Z)(H:uQ P Γ ops.toList n i x f i' y g=Z){s s1 s2}(e1:eW P Γ G k ops n m i x s=E (s1,f))(e2:eW P Γ G k ops n m i' y s1=E (s2,g)):
  ∃s',eW P Γ G k ops n m i' y s=E (s',g)/\eW P Γ G k ops n m i x s'=E (s2,f):=by
 have⟨D,U,F⟩:(∀d,x.dst=E d->d ∉ y.looksAt ops)/\(∀d,x.dst=E d->y.dst≠E d)/\(∀d,y.dst=E d->d ∉ x.looksAt ops):=by
  unfold Oper.apart at ab
  simp only[No] at ab
  have⟨ha,hb⟩:=ab
  refine⟨λd l=>?_,λd l=>?_,λd l=>?_⟩
  ·rw[l] at ha;simp at ha;exact ha.1
  ·rw[l] at ha;simp at ha;exact ha.2
  ·rw[l] at hb;simpa using hb
 have S:∀{j}{t}{h}{o}{L}{v},(∀d,L=E d->d ∉ o.looksAt ops)->IQ ..=IQ P Γ G k ops.toList n m j t h o:=λ{j t h o L v} M=>by
  have he:=kI (t:=t) (v:=v) M
  unfold IQ
  rw[l6 o he]
  have:mD Γ.nb ops.toList n m j (bK t L v) o.op=mD Γ.nb ops.toList n m j t o.op:=by unfold mD;rw[fL he]
  rw[this]
 have Lx:∀{t}{o:Oper}{L}{v},(∀d,L=E d->d ∉ o.looksAt ops)->((o.looksAt ops).map λi=>(bK t L v)[i]?)=(o.looksAt ops).map λi=>t[i]? :=λ{t o L v} M=>
  aiw λq R=>nA λd l Vc=>M d l (Vc▸R)
 have Ly:∀{t}{o}{L}{v},(∀d,L=E d->d ∉ o.looksAt ops)->((mF ops o).map λi=>(bK t L v)[i]?)=(mF ops o).map λi=>t[i]? :=λ{t o L v} M=>
  aiw λq R=>nA λd l Vc=>M d l (Vc▸jS R)
 have ao:∀a b c b' c',aa (aa (aa (aa a b) b') c) c'=aa (aa (aa (aa a c) c') b) b':=by decide
 have ap:∀{s s1:St}{j}{o},eC ops s.t o=E I->eW P Γ G k ops n m j o s=E (⟨bK s.t o.dst (.bP []),s.h,s.ob⟩,⟨0,Y,Y,(mF ops o).map λi=>s.t[i]?,.bP [],[]⟩):=λ{s s1 j o} hw=>(eA.2 ⟨hw,rfl,rfl⟩).1
 unfold uQ at H
 split at H
 ·
  rename_i J K
  obtain⟨Q,gx,v,h',p,new,ox,rfl,rfl⟩:=ej.1 ⟨e1,J⟩
  obtain⟨u,gy,v',V,p',ad,W,rfl,rfl⟩:=ej.1 ⟨e2,K⟩
  simp only at u W H
  rw[fH D] at u
  rw[S D] at W
  rw[fL (kI D)] at H
  have⟨hh,o1,o2⟩:=U9 hG hx al am H ox W
  refine⟨_,(ej.2 ⟨u,gy,_,_,_,_,o1,rfl,?_⟩).1,?_⟩
  ·rw[fL (kI D),Lx D]
  ·have q:=(ej (s:=⟨bK s.t y.dst (gk Γ.sym y.dst v').1,hh,aa (aa s.ob p') (gk Γ.sym y.dst v').2⟩)).2
    ⟨by rw[fH F];exact Q,gx,v,V,p,new,by rw[S F];exact o2,rfl,rfl⟩
   rw[q.1]
   congr 2
   ·refine St.mk.injEq .. |>.mpr ⟨jt _ _ (λd l N=>U d N l),rfl,(ao _ _ _ _ _).symm⟩
   ·exact Fp.mk.injEq .. |>.mpr ⟨rfl,fL (kI F),rfl,Lx F,rfl,rfl⟩
 ·rename_i J K;exact I9 hG D U F H e1 e2 J K
 ·rename_i J K;exact Jb hG D U F H e1 e2 J K
 ·rename_i J K
  obtain⟨Q,rfl,rfl⟩:=eA.1 ⟨e1,J⟩
  obtain⟨u,rfl,rfl⟩:=eA.1 ⟨e2,K⟩
  simp only at u
  rw[fH D] at u
  refine⟨_,(eA.2 ⟨u,rfl,?_⟩).1,?_⟩
  ·rw[Ly D]
  ·have q:=(eA (P:=P) (G:=G) (k:=k) (n:=n) (i:=i) (m:=m) (s:=⟨bK s.t y.dst (.bP []),s.h,s.ob⟩) (Γ:=Γ)).2 ⟨by rw[fH F];exact Q,rfl,rfl⟩
   rw[q.1]
   congr 2
   ·refine St.mk.injEq .. |>.mpr ⟨jt _ _ (λd l N=>U d N l),rfl,rfl⟩
   ·exact Fp.mk.injEq .. |>.mpr ⟨rfl,rfl,rfl,Ly F,rfl,rfl⟩
 ·rename_i J K
  obtain⟨Q,rfl,rfl⟩:=eA.1 ⟨e1,J⟩
  obtain⟨u,gy,v',V,p',ad,W,rfl,rfl⟩:=ej.1 ⟨e2,K⟩
  simp only at u W
  rw[fH D] at u
  rw[S D] at W
  refine⟨_,(ej.2 ⟨u,gy,_,_,_,_,W,rfl,?_⟩).1,?_⟩
  ·rw[fL (kI D),Lx D]
  ·have q:=(eA (P:=P) (G:=G) (k:=k) (n:=n) (i:=i) (m:=m) (o:=x) (s:=⟨bK s.t y.dst (gk Γ.sym y.dst v').1,V,aa (aa s.ob p') (gk Γ.sym y.dst v').2⟩) (Γ:=Γ)).2 ⟨by rw[fH F];exact Q,rfl,rfl⟩
   rw[q.1]
   congr 2
   ·refine St.mk.injEq .. |>.mpr ⟨jt _ _ (λd l N=>U d N l),rfl,rfl⟩
   ·exact Fp.mk.injEq .. |>.mpr ⟨rfl,rfl,rfl,Ly F,rfl,rfl⟩
 ·rename_i J K
  obtain⟨Q,gx,v,h',p,new,ox,rfl,rfl⟩:=ej.1 ⟨e1,J⟩
  obtain⟨u,rfl,rfl⟩:=eA.1 ⟨e2,K⟩
  simp only at u
  rw[fH D] at u
  refine⟨_,(eA.2 ⟨u,rfl,?_⟩).1,?_⟩
  ·rw[Ly D]
  ·have q:=(ej (P:=P) (G:=G) (k:=k) (n:=n) (i:=i) (ops:=ops) (m:=m) (o:=x) (s:=⟨bK s.t y.dst (.bP []),s.h,s.ob⟩) (Γ:=Γ)).2
    ⟨by rw[fH F];exact Q,gx,v,h',p,new,by rw[S F];exact ox,rfl,rfl⟩
   rw[q.1]
   congr 2
   ·refine St.mk.injEq .. |>.mpr ⟨jt _ _ (λd l N=>U d N l),rfl,rfl⟩
   ·exact Fp.mk.injEq .. |>.mpr ⟨rfl,fL (kI F),rfl,Lx F,rfl,rfl⟩
 ·
  rename_i J K
  obtain⟨Q,gx,r,hr,M,rfl,rfl⟩:=ig.1 ⟨e1,J⟩
  obtain⟨u,rfl,rfl⟩:=eA.1 ⟨e2,K⟩
  simp only at u H
  obtain⟨b,ps,B,T,hb,hh,hu,ac⟩:=qZ (ot gx) hr M
  rw[T] at u H
  simp only[aaB] at H
  have bR:∀q∈mF ops y,(bK (gS (E b) s.t) x.dst r.v)[q]?=s.t[q]? :=λq R=>by
   have h0:=H _ (List.mem_map_of_mem R)
   have af:∀d,x.dst=E d->d≠q:=λd l Vc=>D d l (Vc▸jS R)
   rw[nA af] at h0
   rw[nA af,r9 (zT h0)]
  rw[pn bR] at u
  refine⟨_,(eA.2 ⟨u,rfl,?_⟩).1,?_⟩
  ·simp only[T]
   refine Fp.mk.injEq .. |>.mpr ⟨rfl,rfl,rfl,aiw bR,rfl,rfl⟩
  ·have ae:∀z∈x.op.operands,ev (bK s.t y.dst (.bP [])) z=ev s.t z:=kI F
   have q:=(ig (P:=P) (G:=G) (k:=k) (n:=n) (i:=i) (ops:=ops) (m:=m) (o:=x) (s:=⟨bK s.t y.dst (.bP []),s.h,s.ob⟩) (Γ:=Γ)).2
    ⟨by rw[fH F];exact Q,gx,r,by rw[l6 x ae];exact hr,M,rfl,rfl⟩
   rw[q.1]
   congr 2
   ·simp only[T]
    refine St.mk.injEq .. |>.mpr ⟨?_,rfl,rfl⟩
    rw[si rfl,jt _ _ (λd l N=>U d N l)]
   ·exact Fp.mk.injEq .. |>.mpr ⟨rfl,rfl,pz ae,rfl,rfl,rfl⟩
 ·rename_i J K
  obtain⟨Q,rfl,rfl⟩:=eA.1 ⟨e1,J⟩
  obtain⟨u,gy,r,hr,M,rfl,rfl⟩:=ig.1 ⟨e2,K⟩
  simp only at u hr H
  rw[fH D] at u
  have Pr:∀z∈y.op.operands,ev (bK s.t x.dst (.bP [])) z=ev s.t z:=kI D
  rw[l6 y Pr] at hr
  obtain⟨b,ps,B,T,hb,hh,hu,ac⟩:=qZ (ot gy) hr M
  rw[T] at H
  simp only[aaB] at H
  have bR:∀q∈mF ops x,(bK (gS (E b) s.t) y.dst r.v)[q]?=s.t[q]? :=λq R=>by
   have h0:=H _ (List.mem_map_of_mem R)
   rw[nA (λd l Vc=>F d l (Vc▸jS R)),r9 h0]
  refine⟨⟨bK (gS r.lU s.t) y.dst r.v,r.h,aa s.ob r.p⟩,?_,?_⟩
  ·have q:=(ig (P:=P) (G:=G) (k:=k) (n:=n) (i:=i') (ops:=ops) (m:=m) (o:=y) (s:=s) (Γ:=Γ)).2 ⟨u,gy,r,hr,M,rfl,rfl⟩
   rw[q.1]
   congr 2
   exact Fp.mk.injEq .. |>.mpr ⟨rfl,rfl,(pz Pr).symm,rfl,rfl,rfl⟩
  ·have q:=(eA (P:=P) (G:=G) (k:=k) (n:=n) (i:=i) (ops:=ops) (m:=m) (o:=x) (s:=⟨bK (gS r.lU s.t) y.dst r.v,r.h,aa s.ob r.p⟩) (Γ:=Γ)).2 ⟨by rw[T,pn bR];exact Q,rfl,rfl⟩
   rw[q.1]
   congr 2
   ·simp only[T]
    refine St.mk.injEq .. |>.mpr ⟨?_,rfl,rfl⟩
    rw[si rfl,jt _ _ (λd l N=>U d N l)]
   ·simp only[T]
    exact Fp.mk.injEq .. |>.mpr ⟨rfl,rfl,rfl,aiw bR,rfl,rfl⟩
 ·cases H
def FI{Γ G k n i ops m o s s' f}(e:eW P Γ G k ops n m i o s=E (s',f))(h:s'.ob=Z):s.ob=Z:=by
 unfold eW at e;split at e
 ·split at e
  ·split at e
   ·split at e
    ·cases e;simp[av] at h;exact h.1
    ·cases e
   ·cases e
  ·split at e
   ·cases e;simp[av] at h;exact h.1.1
   ·cases e
 ·cases e;exact h
 ·cases e
def tZ(P:Program)(Γ:cu)(G:ct)(k:Nat)(ops:Array Oper)(n:Nat)(m:List Nat)(φ:Nat->Fp):List Nat->St->St->Prop
 | [],s,a=>s=a
 |i::c,s,a=>∃o b,ops.toList[i]?=E o/\eW P Γ G k ops n m i o s=E (b,φ i)/\tZ P Γ G k ops n m φ c b a
def zV{Γ G k n ops m φ}:∀is(s s':St)fs,y7 P Γ G k ops n m is s=E (s',fs)->A fs=A is/\((∀(r i:Nat),is[r]?=E i->fs[r]?=E (φ i))->tZ P Γ G k ops n m φ is s s')
 | [],s,s',fs,e=>by simp only[y7,Mf,aad] at e;have⟨rfl,rfl⟩:=e;exact⟨rfl,λ_=>rfl⟩
 |i::is,s,s',fs,e=>by
  simp only[y7] at e;split at e
  ·cases e
  ·rename_i o p;split at e
   ·rename_i a f b;split at e
    ·rename_i l q h2;simp[Mf,aad] at e;have⟨rfl,rfl⟩:=e;have⟨c,g⟩:=zV (φ:=φ) is a l q h2;refine⟨by simp[c],λhφ=>⟨o,a,p,?_,g λr j u=>?_⟩⟩
     ·have:=hφ 0 i rfl;simp[afZ,Mf] at this;rw[<-this];exact b
     ·have:=hφ (r+1) j (by simpa using u);simpa using this
    ·cases e
   ·cases e
def vu{Γ G k n ops m φ}:∀is(s s':St),tZ P Γ G k ops n m φ is s s'->s'.ob=Z->s.ob=Z
 | [],s,s',e,h=>by rw[tZ] at e;subst e;exact h
 |i::is,s,s',⟨_,b,_,a,c⟩,h=>FI a (vu is b s' c h)
def Lz{Γ G k n ops m}:∀is(s s':St)fs,y7 P Γ G k ops n m is s=E (s',fs)->s'.ob=Z->s.ob=Z
 | [],s,s',fs,e,h=>by simp[y7,Mf,aad] at e;have⟨rfl,rfl⟩:=e;exact h
 |i::is,s,s',fs,e,h=>by
  simp[y7] at e;split at e
  ·cases e
  ·split at e
   ·rename_i g f c;split at e
    ·rename_i a b l;simp[Mf,aad] at e;have⟨rfl,rfl⟩:=e;exact FI c (Lz is g a b l h)
    ·cases e
   ·cases e
def pE{Γ G}(q:me Γ.pf G){k n ops m φ i y}(hi:ops.toList[i]?=E y):∀pre post(s s':St),
  (∀j∈pre,j<i/\∀x,ops.toList[j]?=E x->(X m i 0).testBit j=I/\x.apart ops y=Z/\uQ P Γ ops.toList n j x (φ j) i y (φ i)=Z)->tZ P Γ G k ops n m φ (pre++i::post) s s'->∃s1,eW P Γ G k ops n m i y s=E (s1,φ i)/\tZ P Γ G k ops n m φ (pre++post) s1 s'
 | [],post,s,s',_,e=>by have⟨o,s1,u,p,c⟩:=e;rw[hi] at u;cases u;exact⟨s1,p,c⟩
 |j::pre,post,s,s',v,e=>by have⟨x,L,g,K,e⟩:=e;have⟨s1,p,c⟩:=pE q hi pre post L s' (λk z=>v k (by simp[z])) e;have⟨f,l⟩:=v j (by simp);have⟨D,b,a⟩:=l x g;have⟨H,F,J⟩:=Jc q g f D b a K p;exact⟨H,F,x,s1,g,J,c⟩
def q8{Γ G}(V:o7 P G){k n nn ro m ops o i}(hi:ops[i]?=E o){s s' f}(g:eW P Γ G k ops n m i o s=E (s',f))(F:s'.ob=Z)
  {B e w t' d Q K}(W:∀i p,B.e.r i=E p->i<k)(y:TR e s.t t')(R:bM B e s.h w)
  (J:∀e' w' c,e'.m=e.m->TR e' s'.t c->bM B e' s'.h w'->K ⟨⟨c⟩,d⟩ w'):wpOpIn (wF ro) nn P ops Q i K ⟨⟨t'⟩,d⟩ w:=by
 unfold eW at g;unfold wpOpIn;rw[hi];simp[];split at g
 ·rename_i L;rw[ae8 (fJ y L)];split at g
  ·split at g
   ·rename_i r M;split at g
    ·rename_i l;cases g;simp[av] at F;refine tY V M F.2 (.inr λa U=>?_) W y R λe' v' w' S D u=>?_
     ·rw[l] at U;exact absurd U (Nat.not_lt_zero _)
     have⟨c,q,x⟩:=TR.put (d:=d) (o:=o.dst) (u.zI y) S;rw[q];refine J e' w' c u.m x ?_;rw[l,b8] at D;exact D
    ·cases g
   ·cases g
  split at g
  ·rename_i q N;have⟨v,h',p,nw⟩:=q;obtain⟨_,r,M,T,l,z,ab,rfl,rfl,rfl,rfl⟩:=dA.1 N;cases g;simp[av] at F;refine tY V M F.1.2 (.inr λa U=>?_) W y R λe' v' w' S D u=>?_
   ·rw[eR] at z;exact z a (by omega)
   rw[FC F.2] at J;rw[T] at u;have⟨c,q,x⟩:=TR.put (d:=d) (o:=o.dst) (u.zI y) S;rw[q];refine J e' w' c u.m x ?_;have Lm:cO r.h (ei Γ.nb ops.toList n i) r.new=c8 r.h (ei Γ.nb ops.toList n i) r.new:=by
    unfold cO;split
    ·rename_i hj;have:r.new=[]:=by cases hq:r.new with
      |nil=>rfl
      |cons b bs=>
       exfalso;have H:0<sZ Γ.nb o.op:=by rw[<-l,hq];simp
       have:=(eR.1 z) 0 H;have:=(aaR.1 this).1;omega
     rw[this];simp[c8]
    ·rfl
   rw[Lm] at D;exact D
  ·cases g
 ·rename_i L
  cases g
  rw[acB (by rw[fJ y L];simp)]
  have⟨c,q,x⟩:=TR.put (d:=d) (o:=o.dst) y (VR.empty (e:=e))
  rw[q]
  exact⟨λ_ _=>trivial,J e w c rfl x R⟩
 ·cases g
def Py{Γ G}(hG:o7 P G)(hP:me Γ.pf G){k n nn ro ops fs}(hd:oM P Γ n fs ops=Z):∀g(a:Array Bool)s s',a.size=ops.size->I8 ops.toList a->
  A ((t8 ops.size).filter λi=>!a.getD i Z)=g->
  tZ P Γ G k ops n (fA ops.toList []) (mZ fs) ((t8 ops.size).filter λi=>!a.getD i Z) s s'->s'.ob=Z->
  ∀{B}{e}{w}{t'}{d}{Q},(∀i p,B.e.r i=E p->i<k)->TR e s.t t'->bM B e s.h w->
  (∀e' w' L,e'.m=e.m->TR e' s'.t L->bM B e' s'.h w'->Q .normal ⟨⟨L⟩,d⟩ w')->wpAnyIn (wF ro) nn P .any ops Q g a ⟨⟨t'⟩,d⟩ w:=by
 have ab:∀j(y:Oper),ops.toList[j]?=E y->(∀e∈y.after.toList,Region.binds .any e=Z->e.on<j)/\
   ∀(i:Nat)(x:Oper),i<j->ops.toList[i]?=E x->(X (fA ops.toList []) j 0).testBit i=Z\/Fk P Γ n fs ops i x j y=Z:=by
  intro j y hy;unfold oM at hd;rw[aaB] at hd;have ac:(y,j)∈ops.toList.zipIdx:=by rw[List.mk_mem_zipIdx_iff_getElem?];exact hy
  have u:=hd _ ac;simp only[No,aaB,agV,af9,aac] at u;refine⟨λe U z=>(u.1 e U).resolve_left (by simp[z]),λi x f M=>?_⟩;have K:(x,i)∈ops.toList.zipIdx.take j:=by
   rw[ajl];refine⟨i,?_⟩;rw[afY f,List.getElem?_zipIdx,M];simp
  exact u.2 _ K
 have zW:∀(a:Array Bool)(i:Nat),i∈Region.ready .any ops a->i∈(t8 ops.size).filter λi=>!a.getD i Z:=λlisted i N=>by
  have⟨u,o,F,_⟩:=mem_ready.1 N;rw[List.mem_filter,aaI];exact⟨(abE.1 F).1,by simp[u,aiW]⟩
 intro g;induction g with
 |zero=>
  intro a s s' _ _ c S cY B e w t' d Q hk hl R hQ;have tW:=abJ.1 c;rw[tW] at S;rw[tZ] at S;subst S;refine⟨?_,hQ e w t' rfl hl R⟩;cases al:Region.ready .any ops a with
  |nil=>rfl
  |cons i l=>
   have:=zW a i (by rw[al];simp);rw[tW] at this;cases this
 |succ g ih=>
  intro a s s' D mX c S cY B e w t' d Q hk hl R hQ;refine⟨λtW=>?_,λi N=>?_⟩
  ·
   cases hL:(t8 ops.size).filter λi=>!a.getD i Z with
   |nil=>rw[hL] at c;cases c
   |cons i0 l=>
    have uI:i0∈(t8 ops.size).filter λi=>!a.getD i Z:=by rw[hL];simp
    rw[List.mem_filter,aaI] at uI;have T:((t8 ops.size).filter λi=>!a.getD i Z).Pairwise (· < ·):=List.Pairwise.filter _ List.pairwise_lt_range;have V:∀j,j<i0->a.getD j I=Z:=λj v=>by cases hq:a.getD j Z with
     |true=>
      have yg:j<a.size:=by rw[D];omega
      simp[yg] at hq ⊢;exact hq
     |false=>
      have hm:j∈(t8 ops.size).filter λi=>!a.getD i Z:=by
       rw[List.mem_filter,aaI];exact⟨by omega,by simp[hq,aiW]⟩
      rw[hL] at hm T
      rcases af7.1 hm with rfl|hm
      ·omega
      ·have:=(List.pairwise_cons.1 T).1 j hm;omega
    have F:=Array.getElem?_eq_getElem uI.1
    have:i0∈Region.ready .any ops a:=by
     refine mem_ready.2 ⟨by simpa using uI.2,_,F,λe U z=>V e.on ?_⟩
     exact(ab i0 _ (by rw[Array.getElem?_toList];exact F)).1 e (by simpa using U) z
    rw[tW] at this
    cases this
  ·have⟨t7,o,F,H⟩:=mem_ready.1 N
   have Vd:=zW a i N
   have⟨pre,post,b⟩:=List.append_of_mem Vd
   have T:((t8 ops.size).filter λi=>!a.getD i Z).Pairwise (· < ·):=List.Pairwise.filter _ List.pairwise_lt_range
   rw[b] at S T
   have wY:∀j∈pre,j<i:=λj v=>(List.pairwise_append.1 T).2.2 j v i (by simp)
   have Dq:∀j∈post,i<j:=λj v=>(List.pairwise_cons.1 (List.pairwise_append.1 T).2.1).1 j v
   have HN:ops.toList[i]?=E o:=by simpa using F
   have ad:=zS ops.toList [] [] rfl (λi o N=>by simp at N)
   have ao:A (fA ops.toList [])=A ops.toList:=by rw[pg];simp
   have LA:∀j∈pre,j<i/\∀x,ops.toList[j]?=E x->(X (fA ops.toList []) i 0).testBit j=I/\x.apart ops o=Z/\uQ ..=Z:=λj v=>⟨wY j v,λx M=>by
    have W:(X (fA ops.toList []) i 0).testBit j=I:=by
     cases z:((fA ops.toList []).getD i 0).testBit j with
     |false=>rfl
     |true=>
      exfalso
      have K:=xL (by simpa using ad) ao mX i i o (aar _) HN (λe U z=>H e (by simpa using U) z) j z
      have J:j∈(t8 ops.size).filter λi=>!a.getD i Z:=by rw[b];simp[v]
      rw[List.mem_filter] at J
      have yg:j<a.size:=by rw[D];exact aaI.1 J.1
      have h3:=J.2
      simp[yg] at K h3
      rw[K] at h3
      cases h3
    refine⟨W,?_⟩
    rcases(ab i o HN).2 j x (wY j v) M with u|u
    ·rw[W] at u;cases u
    ·unfold Fk at u
     rw[No] at u
     exact u⟩
   have⟨s1,u,K⟩:=pE hP HN pre post s s' LA S
   refine q8 hG F u (vu _ _ _ K cY) hk hl R λe' w' L am af R'=>?_
   have Ve:(t8 ops.size).filter (λj=>!(a.setIfInBounds i Z).getD j Z)=pre++post:=by
    have e1:∀j,(a.setIfInBounds i Z).getD j Z=(a.getD j Z||C (j=i)):=λj=>by
     by_cases f:i=j
     ·subst f
      have ap:i<a.size:=by rw[D];exact(abE.1 F).1
      simp[ap]
     ·rw[getD_set_ne Z f]
      have:¬j=i:=λq=>f q.symm
      simp[this]
    have e2:(t8 ops.size).filter (λj=>!(a.setIfInBounds i Z).getD j Z)=((t8 ops.size).filter λj=>!a.getD j Z).filter λj=>C (j≠i):=by
     rw[List.filter_filter]
     apply List.filter_congr
     intro j _
     rw[e1 j]
     by_cases ae:j=i<;>simp[ae]
    rw[e2,b,List.filter_append,List.filter_cons]
    have e3:pre.filter (λj=>C (j≠i))=pre:=ajR.2 λj v=>by have:=wY j v;simp;omega
    have e4:post.filter (λj=>C (j≠i))=post:=ajR.2 λj v=>by have:=Dq j v;simp;omega
    rw[e3,e4]
    simp
   refine ih (a.setIfInBounds i Z) s1 s' (by simp[D]) ?_ ?_ (by rw[Ve];exact K) cY hk af R' λe2 w2 t2 an lq R2=>hQ e2 w2 t2 (an.trans am) lq R2
   ·intro j x M Vf e uD z
    by_cases f:i=j
    ·subst f
     rw[HN] at M;cases M
     exact getD_set_true (H e (by simpa using uD) z)
    ·rw[getD_set_ne I f] at Vf
     exact getD_set_true (mX j x M Vf e uD z)
   ·rw[Ve]
    rw[b] at c
    simp at c ⊢
    omega
def bM.FH{B e h w}(R:bM B e h w) n:bM B e (h++t9 n .gap) w:=
 {os:=R.os,tape:=R.tape,output:=R.output,size:=R.size,inj:=R.inj,dom:=λi p a=>by have:=R.dom i p a;simp;omega,gM:=R.gM,gN:=R.gN,bN:=R.bN,fU:=R.fU,cM:=R.cM,b6:=R.b6,cE:=R.cE,n0:=R.n0,dK:=R.dK,
  gr:=λi b a=>by
   rcases agP .. with h1|h1
   ·rw[afy h1] at a;exact R.gr i b a
   ·rw[afE h1,List.getElem?_replicate] at a;split at a<;>cases a
  gap:=λi g a=>by
   rcases agP .. with h1|h1
   ·rw[afy h1] at a;exact R.gap i g a
   ·refine⟨?_,?_⟩
    ·cases c:e.r i with
     |none=>rfl
     |some p=>have:=R.dom i p c;omega
    ·rw[afE h1,List.getElem?_replicate] at a;split at a
     ·cases a;trivial
     ·cases a
  yi:=R.yi,yb:=R.yb,old:=R.old,lz:=R.lz,kr:=R.kr,iT:=by have:=R.iT;simp;omega,g7:=R.g7,jG:=R.jG}
def vv{Γ G}(u:o7 P G)(J:me Γ.pf G){k v ro ops}(H:P.follows .mixedOrders=Z){s s':St}{fs}(S:oM P Γ (A s.h) fs ops=Z)
  (F:y7 P Γ G k ops (A s.h) (fA ops.toList []) (t8 ops.size) ⟨s.t,s.h++t9 (kN Γ.nb ops.toList) .gap,s.ob⟩=E (s',fs))(L:s'.ob=Z)
  {B e w t' d Q}(D:∀i p,B.e.r i=E p->i<k)(y:TR e s.t t')(R:bM B e s.h w)
  (N:∀e' w' f,e'.m=e.m->TR e' s'.t f->bM B e' s'.h w'->Q .normal ⟨⟨f⟩,d⟩ w') x:(Code.region x ops Z).wpIn (wF ro) v P Q ⟨⟨t'⟩,d⟩ w:=by
 refine wpIn_region_any H ?_;have a:(t8 ops.size).filter (λi=>!(Array.replicate ops.size I).getD i Z)=t8 ops.size:=ajR.2 λi q=>by
  rw[aaI] at q;simp[q]
 have c:tZ P Γ G k ops (A s.h) (fA ops.toList []) (mZ fs) (t8 ops.size) ⟨s.t,s.h++t9 (kN Γ.nb ops.toList) .gap,s.ob⟩ s':=by
  have⟨K,M⟩:=zV (φ:=mZ fs) _ _ _ _ F
  refine M λr i b=>?_
  have l:=(aaR.1 b).1
  have z:r<ops.size:=by simpa using l
  rw[ajq z] at b
  cases b
  have g:r<A fs:=by rw[K];exact l
  unfold mZ
  rw[aaQ g]
 refine Py u J S ops.size _ ⟨s.t,s.h++t9 (kN Γ.nb ops.toList) .gap,s.ob⟩ s' (by simp) ?_ (by rw[a];simp) (by rw[a];exact c) L D y ((R.FH _).drawn _) N
 intro j o T n
 rw[show(Array.replicate ops.size I).getD j I=I from by rw[Array.getD_eq_getD_getElem?,Array.getElem?_replicate];split<;>rfl] at n
 cases n
def pF{G}(l:o7 P G){x eZ k n ro ops}:∀is(s s':St),cg P G x eZ k ops is s=E s'->s'.ob=Z->
  ∀{B}{e}{w}{t'}{d}{Q},(∀i p,B.e.r i=E p->i<k)->TR e s.t t'->bM B e s.h w->
  (∀e' w' a,e'.m=e.m->TR e' s'.t a->bM B e' s'.h w'->Q .normal ⟨⟨a⟩,d⟩ w')->wpOpsIn (wF ro) n P ops Q is ⟨⟨t'⟩,d⟩ w
 | [],s,s',g,_,B,e,w,t',d,Q,c,b,R,f=>by
  simp[cg,Mf] at g;subst g;exact f e w t' rfl b R
 |i::is,s,s',g,v,B,e,w,t',d,Q,c,b,R,f=>by
  simp only[cg] at g;have F:ops[i]?=ops.toList[i]? :=by simp
  rw[wpOpsIn_cons];split at g
  ·rename_i y;rw[<-F] at y
   simp[wpOpIn,y]
   exact pF l is s s' g v c b R f
  ·rename_i o D
   rw[<-F] at D
   split at g
   ·rename_i z N
    refine zO l D N (om is z s' g v) c b R λe' w' a H u K=>?_
    exact pF l is z s' g v c u K λe2 J t2 q L M=>f e2 J t2 (q.trans H) L M
   ·cases g
