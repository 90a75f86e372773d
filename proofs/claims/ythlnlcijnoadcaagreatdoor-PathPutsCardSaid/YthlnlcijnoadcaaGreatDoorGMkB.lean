/- This file holds the texts MkA, MkB, a section each. No conditions beyond those in the theorems. -/
import Derived.Test.YthlnlcijnoadcaaGreatDoorGWiD
import Derived.Test.YthlnlcijnoadcaaGreatDoorGTtB
import Derived.Test.YthlnlcijnoadcaaGreatDoorGS2F
noncomputable section
open Go.Proofs.Tryz
open Go.IntKind (i64 u8 u64 u32)
set_option linter.all false
set_option maxRecDepth 100000
section
namespace Go.Sy
open Go
section
variable {P:Program} {ro:Option Nat} {k:Nat} {e:Env} {B:cP} {h:List Blk} {w:World}
theorem bE.Kv {t:List (Option SV)} {o o':Bool} {b N n:Nat} {K:IntKind} {l:List Int} (hb:h[b]? =some (.b [.ints K N l])) (hn:n<=N):bE k ⟨t,h,o⟩ ⟨t,h.set b (.b [.ints K n (l.take n)]),o'⟩:=λB e w t' hB hl R=>by
 refine ⟨e,rfl,hl,R.Gg hb (λp o _ _ q=>?_) (λq=>by simp only [av,gS] at q ⊢;omega)⟩
 obtain ⟨c,t,rfl,g3,g4,g5⟩:=q
 refine ⟨c,t,rfl,g3,by simp only [av,gS] at g4 ⊢;omega,?_⟩
 obtain ⟨zs,z1,z2⟩:=g5
 rw [PR] at z1;subst z1
 refine ⟨[],rfl,?_⟩
 simp only [av,gS,Nat.add_zero,aaz] at z2 ⊢
 have:=adX (List.take n) z2
 rw [adD,ab6 hn] at this
 rw [this,lY hn,cw]
theorem OX.P8 {ops:Array Oper} {i:Nat} {dst:Option Tmp} {s:St} {c:Call} {ty el:TypeId} {x:Operand} {b m len cap:Nat} {ex wh:Bool} {xs:List Int} (hi:(ops[i]?).map (λo=>(o.dst,o.op))=some (dst,.call c)) (hw:(ops[i]?).bind (eV ops s.t)=some true)
  (hc:c.callee= .builtin .clear/\c.argTypes= #[ty]/\c.args= #[x]) (hu:P.underlying ty=some (.slice el)) (hz:zeroOf P el=some (.int .i64 0)) (hx:ev s.t x=some (.sl b 0 m 1 len cap ex wh)) (hb:s.h[b]? =some (.b [.ints .i64 m xs])) (hl:xs.length=m):
  OX P ro k ops [i] s (λ_ _ _=>True) ⟨bw s.t dst (.bC []),s.h,s.ob⟩ (λ_ _ _=>True):=by
 obtain ⟨o,hj,hw⟩:=aaF.1 hw
 rw [hj] at hi
 simp only [aaH,No,aae] at hi
 obtain ⟨rfl,ho⟩:=hi
 obtain ⟨EV,Kd,hc3⟩:=hc
 refine OX.op hj (by rw [ho];simp) hw λB e w t' d hl' R _=>?_
 have e1:=aK (d:=d) hl' hx
 have hrun:∀(v:Value) (w':World),Act.eval ⟨⟨t'⟩,d⟩ x=v->(Builtin.clear_ #[ty] o.type #[v]).run P w= .ok (.tuple #[]) w'->(execOp (Act.eval ⟨⟨t'⟩,d⟩) o).run P w= .ok (.value (.tuple #[])) w':=λv w' hv hr=>by
  have ha:(#[v]:Array Value)=c.args.map (Act.eval ⟨⟨t'⟩,d⟩):=by rw [hc3, <-hv];simp
  rw [gz EV ha ho,Kd]
  show ((do pure (.value (<-Builtin.clear_ #[ty] o.type #[v])):Sem Next)).run P w=_
  simp [hr]
 have zero:∀(a:Option Addr) (cp:Nat),Act.eval ⟨⟨t'⟩,d⟩ x= .slice a 0 cp->∃v' w',(execOp (Act.eval ⟨⟨t'⟩,d⟩) o).run P w= .ok (.value v') w'/\VR e (.bC []) v'/\Rel B e s.h w'/\True:=λa cp hv=>by
  refine ⟨.tuple #[],w,hrun _ _ hv ?_,⟨[],rfl,rfl⟩,R,trivial⟩
  cases a<;>simp [Builtin.clear_,aas hu]
 rcases e1 with ⟨h0,_,a,hv⟩|⟨p,cap',a,g1,hv,g2,g3,_,g5,g6⟩
 ·subst h0;exact zero _ _ hv
 ·by_cases h0:len=0
  ·subst h0;exact zero _ _ hv
  ·have hne:cap'≠0:=by omega
   have ha:=g2 hne
   have hf:=g6 hne
   rcases R.ew b _ hb with ⟨_,q2⟩|⟨p',o',q1,q2,cc,tt,rfl,q3,q4,q5⟩
   ·rw [g1] at q2;cases q2
   rw [g1] at q1;cases q1
   simp only [av,gS] at q4
   have hst:=run_storeCells_at P p.n a tt (List.replicate len (Value.int .i64 0)) 0 cc w q2 (by simp;omega) (λv hv=>by rw [List.eq_of_mem_replicate hv];rfl)
   have Z6:(Builtin.zeroCells (Value.int .i64 0).cells len).toList=List.replicate len (Value.int .i64 0):=by
    show (Builtin.zeroCells #[Value.int .i64 0] len).toList=_
    simp [Builtin.zeroCells]
    apply List.ext_getElem
    ·simp
    ·intro i h1 h2;simp [Nat.mod_one]
   refine ⟨.tuple #[],w.setRow p.n (cc.toList.take (a+0)++List.replicate len (Value.int .i64 0)++cc.toList.drop (a+0+(List.replicate len (Value.int .i64 0)).length)).toArray,hrun _ _ hv ?_,⟨[],rfl,rfl⟩,?_,trivial⟩
   ·obtain ⟨len',rfl⟩:∃q,len=q+1:=⟨len-1,by omega⟩
    simp [Builtin.clear_,aas hu,fy hz w,Z6,hst]
   ·have key:=R.setBlock (ps':=[.ints .i64 m xs]) (c':=(cc.toList.take (a+0)++List.replicate len (Value.int .i64 0)++cc.toList.drop (a+0+(List.replicate len (Value.int .i64 0)).length)).toArray) g1 q2 (by simp;omega) (λj hj=>?_) (by simp only [av,gS];omega) ?_
    ·rwa [show s.h.set b (.b [.ints .i64 m xs])=s.h from by
      apply abf
      intro j
      by_cases hj:b=j
      ·subst hj;rw [aay (aal.1 hb).1,hb]
      ·rw [aau hj]] at key
    ·rw [adv,Nat.add_zero]
     rcases acf j a with h|h
     ·rw [aaE,aaR (by simp;omega),aa8,aaM h];simp
     ·rw [aaV (by simp;omega),aaQ]
      have:a+(List.replicate len (Value.int .i64 0)).length+(j-(List.take a cc.toList++List.replicate len (Value.int .i64 0)).length)=j:=by simp;omega
      rw [this];simp
    ·simp only [av,gS] at q5 ⊢
     rw [show ((cc.toList.take (a+0)++List.replicate len (Value.int .i64 0)++cc.toList.drop (a+0+(List.replicate len (Value.int .i64 0)).length)).drop p.base).take (m+0)=(cc.toList.drop p.base).take (m+0) from ?_]
     ·exact q5
     ·apply abf
      intro j
      rw [aa8,aa8]
      by_cases hj:j<m+0
      ·rw [aaM hj,aaM hj,aaQ,aaQ,aaE,aaR (by simp;omega),aa8,aaM (by omega)]
      ·rw [aaC hj,aaC hj]
def B9 (o:Oper):Option (Option Tmp×Callee×Array TypeId×Array Operand):=match o.op with
 | .call c=>some (o.dst,c.callee,c.argTypes,c.args)
 |_=>none
theorem OX.clear {ops:Array Oper} {i:Nat} {dst:Option Tmp} {s:St} {ty el:TypeId} {x:Operand} {b m len cap:Nat} {ex wh:Bool} {xs:List Int} (hi:(ops[i]?).bind B9=some (dst,.builtin .clear,#[ty],#[x])) (hw:(ops[i]?).bind (eV ops s.t)=some true)
  (hu:P.underlying ty=some (.slice el)) (hz:zeroOf P el=some (.int .i64 0)) (hx:ev s.t x=some (.sl b 0 m 1 len cap ex wh)) (hb:s.h[b]? =some (.b [.ints .i64 m xs])) (hl:xs.length=m):
  OX P ro k ops [i] s (λ_ _ _=>True) ⟨bw s.t dst (.bC []),s.h,s.ob⟩ (λ_ _ _=>True):=by
 obtain ⟨o,h1,h2⟩:=aaF.1 hi
 unfold B9 at h2
 split at h2
 ·rename_i c hc
  simp only [No,aae] at h2
  obtain ⟨rfl,h3⟩:=h2
  exact OX.P8 (c:=c) (by rw [h1,aaH,hc]) hw h3 hu hz hx hb hl
 ·cases h2
end
end Go.Sy
namespace Go.Proofs.YthlnlcijnoadcaaGreatDoor.Mk
open Go Go.Sy Tr Wi
theorem DG {xs:List Int} (h:xs.length<=274877906944):ai prog 120 [.ro false .i64 xs] [] (.sl 0 0 0 1 xs.length xs.length false true) [.b [.ints .i64 xs.length xs]]:=by
 refine ai.Gh (λh0=>?_) (λhx=>?_) (λhx a c=>?_)
 ·have k:=VL xs
  rw [abC,Me h0,Me (show xs.length<=2^38 by omega)] at k
  exact ai.bg gB func120 k
 ·subst hx
  exact ai.mF (h1:=[]) (ai.bg gB func120 (VM ())) .i64 false true
 ·subst hx
  exact ai.bg gB func120 (VN a c)
def Kw:Entry prog:=.val 120 _ func120 (by decide) rfl true 1 (λvs=>match vs with
 | [.ro false .i64 xs]=>some (.sl 0 0 0 1 xs.length xs.length false true,[.b [.ints .i64 xs.length xs]],decide (xs.length<=274877906944))
 |_=>none) λvs v new e=>by
 split at e
 ·simp only [No,aae,aab] at e
  obtain ⟨rfl,rfl,h⟩:=e
  exact DG h
 ·cases e
def Gi:List (FuncId×Func):=[(121,f121)]
theorem yX:aL prog Gi:=aL.cons func121 (by decide) aL.nil
def xX (l:List (Nat×Bool)):bO:=mk (P:=prog) [iL] Gi (uT l)
theorem jb (l:List (Nat×Bool)):ak prog (xX l):=az _ yX _ _
def z6:Code:=aP f160
abbrev Gj:SV:=.fn (.func 121) [] [.ptr 1 0 0]
abbrev kg (n:Nat) (xs wo:List Int):List Blk:=[.b [.ints .i64 n xs],.b [.ro false .i64 wo]]
def uL (n:Nat) (xs wo:List Int) (i:Int):St:=⟨slotsOf 19 [(0,.sl 0 0 0 1 n n false true),(1,Gj),(7,.int .i64 n),(8,.int .i64 i)],kg n xs wo,true⟩
def Kx (n:Nat) (xs wo:List Int) (i:Int):St:=⟨slotsOf 19 [(4,.int .i64 i)],kg n xs wo,true⟩
theorem xb (n:Nat) (xs wo:List Int):aA (ah [0,1,7,8] 2 ((aE prog (xX []) 60 2 2 (atoms z6) ⟨aD f160.ntmps [.sl 0 0 0 1 n n false true,Gj],kg n xs wo,true⟩).map λs=>(Exit.normal,s)))=some (.normal,(uL n xs wo 0).t,kg n xs wo):=by kernel_rfl
theorem Gk (n:Nat) (xs wo:List Int):aZ (ah [0,1,7,8] 2 ((aE prog (xX []) 60 2 2 (atoms z6) ⟨aD f160.ntmps [.sl 0 0 0 1 n n false true,Gj],kg n xs wo,true⟩).map λs=>(Exit.normal,s)))=(true):=by kernel_rfl
theorem VQ (n:Nat) (xs wo:List Int) (i:Int):aA (ah [0,1,7,8] 2 (exec prog (xX [(9,true),(16,false)]) 60 2 (inner (inner (au 2 z6))) (uL n xs wo i)))=some (.normal,(uL n xs wo (i64.wrap (i+1))).t,kg n xs wo):=by kernel_rfl
theorem P9 (n:Nat) (xs wo:List Int) (i:Int):aZ (ah [0,1,7,8] 2 (exec prog (xX [(9,true),(16,false)]) 60 2 (inner (inner (au 2 z6))) (uL n xs wo i)))=(aa (aa (aa (aa (aa true (decide (i<((n:Nat):Int)))) (aX i n)) (decide (0+i.toNat<n))) (aa true (aa true (decide (wo.length<=274877906944))))) !hasB wo (xs.getD (0+i.toNat) 0)):=by kernel_rfl
theorem AL (n:Nat) (xs wo:List Int) (i:Int):aA (ah [4] 2 (exec prog (xX [(9,true),(16,true)]) 60 2 (inner (inner (au 2 z6))) (uL n xs wo i)))=some (.ret,(Kx n xs wo i).t,kg n xs wo):=by kernel_rfl
theorem xd (n:Nat) (xs wo:List Int) (i:Int):aZ (ah [4] 2 (exec prog (xX [(9,true),(16,true)]) 60 2 (inner (inner (au 2 z6))) (uL n xs wo i)))=(aa (aa (aa (aa (aa true (decide (i<((n:Nat):Int)))) (aX i n)) (decide (0+i.toNat<n))) (aa true (aa true (decide (wo.length<=274877906944))))) (hasB wo (xs.getD (0+i.toNat) 0))):=by kernel_rfl
theorem AM (n:Nat) (xs wo:List Int) (i:Int):aA (ah [] 2 (exec prog (xX [(9,false)]) 60 2 (inner (inner (au 2 z6))) (uL n xs wo i)))=some (.exit 0,slotsOf 19 [],kg n xs wo):=by kernel_rfl
theorem xe (n:Nat) (xs wo:List Int) (i:Int):aZ (ah [] 2 (exec prog (xX [(9,false)]) 60 2 (inner (inner (au 2 z6))) (uL n xs wo i)))=(aa true !decide (i<((n:Nat):Int))):=by kernel_rfl
section
variable {n:Nat} {xs wo:List Int}
theorem tD (hl:xs.length=n) (hn:n<=274877906944) (hw:wo.length<=274877906944):ai prog 160 [.sl 0 0 0 1 n n false true,Gj] (kg n xs wo) (.int .i64 (bP (λi=>!hasB wo (xs.getD i 0)) n (λi=>(i:Int)) (-1))) (kg n xs wo):=by
 have hw':=Me hw
 have key:=ai.scan (P:=prog) (args:=[.sl 0 0 0 1 n n false true,Gj]) (h:=kg n xs wo) (h':=kg n xs wo) func160 rfl 2 0 (λj:Nat=>uL n xs wo ((j:Nat):Int)) (λi=>!hasB wo (xs.getD i 0)) n
  (λx s' g=>aV.bk (jb []) 60 2 _ 2 (aaf 2) (s1:=uL n xs wo ((0:Nat):Int)) _ (xb n xs wo) (Gk n xs wo) rfl (by decide) rfl g) (by decide) (by kernel_rfl)
  (λi hi hb _=>?_) (λi=>Kx n xs wo ((i:Nat):Int)) (λi=>[.int .i64 ((i:Nat):Int)]) (λi hi hb _=>⟨?_,rfl,rfl⟩) (sE:=⟨slotsOf 19 [],kg n xs wo,true⟩) (uM:=Kx n xs wo (-1)) (vE:=[.int .i64 (-1)]) (xE:=.ret) (λ_=>?_) (λ_=>⟨?_,.inl rfl,rfl,rfl⟩)
 ·rw [bX (g:=SV.int .i64) (vF:=λi:Nat=>(i:Int)) (vE:=-1)] at key
  exact key
 ·have e:=VQ n xs wo i
  rw [cq (by omega)] at e
  exact Tr.aR (jb [(9,true),(16,false)]) 60 _ 2 (aaf 2) (s':=uL n xs wo ((i+1:Nat):Int)) _ e (P9 n xs wo i) (by rw [fo hi,bf hi,aaa,abC,Me hi,hw',hb];rfl)
 ·have hb':hasB wo (xs.getD i 0)=true:=by simpa using hb
  exact Tr.aR (jb [(9,true),(16,true)]) 60 _ 2 (aaf 2) (s':=Kx n xs wo ((i:Nat):Int)) _ (AL n xs wo i) (xd n xs wo i) (by rw [fo hi,bf hi,aaa,abC,Me hi,hw',hb'];rfl)
 ·exact Tr.aR (jb [(9,false)]) 60 _ 2 (aaf 2) (s':=⟨slotsOf 19 [],kg n xs wo,true⟩) _ (AM n xs wo n) (xe n xs wo n) (by rw [fA (aaf _)];rfl)
 ·exact aV.rest (jb []) 60 (by kernel_rfl) rfl
end
def Ca:List SV->List Blk->List Nat
 | [.sl b _ _ _ _ _ _ _,.fn _ _ [.ptr c _ _]],_=>[b,c]
 |_,_=>[]
def Ky:Entry prog:=.mut 160 _ func160 (by decide) rfl Ca 0 (λus h0=>match us,h0 with
 | [.sl 0 0 0 1 n n' false true,.fn (.func 121) [] [.ptr 1 0 0]],[.b [.ints .i64 n2 xs],.b [.ro false .i64 wo]]=>some (.int .i64 (bP (λi=>!hasB wo (xs.getD i 0)) n (λi=>(i:Int)) (-1)),kg n xs wo,decide (n=n')&&decide (n=n2)&&decide (xs.length=n)&&decide (n<=274877906944)&&decide (wo.length<=274877906944))
 |_,_=>none) λus h0 v h1 e=>by
 split at e
 ·simp only [No,aae,aac,aab] at e
  obtain ⟨rfl,rfl,⟨⟨⟨rfl,rfl⟩,h3⟩,h4⟩,h5⟩:=e
  exact tD h3 h4 h5
 ·cases e
def ve (l:List (Nat×Bool)):bO:=mk (P:=prog) [iL,Ky] Gi (uT l)
theorem oe (l:List (Nat×Bool)):ak prog (ve l):=az _ yX _ _
def z7:Code:=aP f110
abbrev UP (n:Nat) (xs wo:List Int):Int:=bP (λi=>!hasB wo (xs.getD i 0)) n (λi=>(i:Int)) (-1)
def DH (n:Nat) (ys wo:List Int) (i j:Int):St:=⟨slotsOf 42 [(0,.sl 0 0 0 1 n n false true),(1,Gj),(5,.int .i64 i),(6,.int .i64 j)],kg n ys wo,true⟩
theorem abl (n:Nat) (xs wo:List Int):aA (ah [0,1,5,6] 2 ((aE prog (ve [(12,false)]) 60 2 5 (atoms z7) ⟨aD f110.ntmps [.sl 0 0 0 1 n n false true,Gj],kg n xs wo,true⟩).map λs=>(Exit.normal,s)))=some (.normal,(DH n xs wo (UP n xs wo) (i64.wrap (UP n xs wo+1))).t,kg n xs wo):=by kernel_rfl
theorem VS (n:Nat) (xs wo:List Int):aZ (ah [0,1,5,6] 2 ((aE prog (ve [(12,false)]) 60 2 5 (atoms z7) ⟨aD f110.ntmps [.sl 0 0 0 1 n n false true,Gj],kg n xs wo,true⟩).map λs=>(Exit.normal,s)))=(aa (aa true (aa true (decide (n=n)&&decide (n=n)&&decide (xs.length=n)&&decide (n<=274877906944)&&decide (wo.length<=274877906944)))) !bP (λi=>!hasB wo (xs.getD i 0)) n (λi=>((i:Nat):Int)) (-1)==-1):=by kernel_rfl
theorem abm (n:Nat) (xs wo:List Int):aA (ah [4] 2 (cn prog (ve [(12,true)]) 60 2 (atoms z7) ⟨aD f110.ntmps [.sl 0 0 0 1 n n false true,Gj],kg n xs wo,true⟩))=some (.ret,slotsOf 42 [(4,.sl 0 0 0 1 n n false true)],kg n xs wo):=by kernel_rfl
theorem VT (n:Nat) (xs wo:List Int):aZ (ah [4] 2 (cn prog (ve [(12,true)]) 60 2 (atoms z7) ⟨aD f110.ntmps [.sl 0 0 0 1 n n false true,Gj],kg n xs wo,true⟩))=(aa (aa true (aa true (decide (n=n)&&decide (n=n)&&decide (xs.length=n)&&decide (n<=274877906944)&&decide (wo.length<=274877906944)))) (bP (λi=>!hasB wo (xs.getD i 0)) n (λi=>((i:Nat):Int)) (-1)==-1)):=by kernel_rfl
theorem VU (n:Nat) (ys wo:List Int) (i j:Int):aA (ah [0,1,5,6] 2 (exec prog (ve [(19,true),(28,false)]) 60 2 (inner (inner (au 5 z7))) (DH n ys wo i j)))=some (.normal,(DH n ys wo (i64.wrap (i+1)) (i64.wrap (j+1))).t,kg n (ys.set (0+i.toNat) (ys.getD (0+j.toNat) 0)) wo):=by kernel_rfl
theorem Qa (n:Nat) (ys wo:List Int) (i j:Int):aZ (ah [0,1,5,6] 2 (exec prog (ve [(19,true),(28,false)]) 60 2 (inner (inner (au 5 z7))) (DH n ys wo i j)))=(aa (aa (aa (aa (aa (aa (aa true (decide (j<((n:Nat):Int)))) (aX j n)) (decide (0+j.toNat<n))) (aa true (aa true (decide (wo.length<=274877906944))))) !hasB wo (ys.getD (0+j.toNat) 0)) (aX i n)) (decide (0+i.toNat<n)&&decide (ys.length=n))):=by kernel_rfl
theorem VV (n:Nat) (ys wo:List Int) (i j:Int):aA (ah [0,1,5,6] 2 (exec prog (ve [(19,true),(28,true)]) 60 2 (inner (inner (au 5 z7))) (DH n ys wo i j)))=some (.normal,(DH n ys wo i (i64.wrap (j+1))).t,kg n ys wo):=by kernel_rfl
theorem Qb (n:Nat) (ys wo:List Int) (i j:Int):aZ (ah [0,1,5,6] 2 (exec prog (ve [(19,true),(28,true)]) 60 2 (inner (inner (au 5 z7))) (DH n ys wo i j)))=(aa (aa (aa (aa (aa true (decide (j<((n:Nat):Int)))) (aX j n)) (decide (0+j.toNat<n))) (aa true (aa true (decide (wo.length<=274877906944))))) (hasB wo (ys.getD (0+j.toNat) 0))):=by kernel_rfl
theorem abn (n:Nat) (ys wo:List Int) (i j:Int):aA (ah [0,5] 2 (exec prog (ve [(19,false)]) 60 2 (inner (inner (au 5 z7))) (DH n ys wo i j)))=some (.exit 0,slotsOf 42 [(0,.sl 0 0 0 1 n n false true),(5,.int .i64 i)],kg n ys wo):=by kernel_rfl
theorem VW (n:Nat) (ys wo:List Int) (i j:Int):aZ (ah [0,5] 2 (exec prog (ve [(19,false)]) 60 2 (inner (inner (au 5 z7))) (DH n ys wo i j)))=(aa true !decide (j<((n:Nat):Int))):=by kernel_rfl
theorem abo (n m:Nat) (ys wo:List Int) (i:Int):aA (ah [0,5,38] 2 ((b7 prog (dH prog (ve []) λk=>Sy.exec prog (ve []) 60 k) (ve []).sym (ve []).ey 2 (opsOf (au 6 z7)) [0,1,2] ⟨slotsOf 42 [(0,.sl 0 0 0 1 n n false true),(5,.int .i64 i)],kg m ys wo,true⟩).map λs=>(Exit.normal,s)))=some (.normal,slotsOf 42 [(0,.sl 0 0 0 1 n n false true),(5,.int .i64 i),(38,.sl 0 0 (0+i.toNat) 1 (n-i.toNat) (n-i.toNat) false false)],kg m ys wo):=by kernel_rfl
theorem VX (n m:Nat) (ys wo:List Int) (i:Int):aZ (ah [0,5,38] 2 ((b7 prog (dH prog (ve []) λk=>Sy.exec prog (ve []) 60 k) (ve []).sym (ve []).ey 2 (opsOf (au 6 z7)) [0,1,2] ⟨slotsOf 42 [(0,.sl 0 0 0 1 n n false true),(5,.int .i64 i)],kg m ys wo,true⟩).map λs=>(Exit.normal,s)))=(aa true (aa true (aa true (decide (0<=i)&&decide (i<=((n:Nat):Int)))))):=by kernel_rfl
theorem abp (n m:Nat) (ys wo:List Int) (i:Int):aA (ah [4] 2 (cn prog (ve []) 60 2 ((atoms z7).drop 7) ⟨slotsOf 42 [(0,.sl 0 0 0 1 n n false true),(5,.int .i64 i)],kg m ys wo,true⟩))=some (.ret,slotsOf 42 [(4,.sl 0 0 0 1 i.toNat n false false)],kg m ys wo):=by kernel_rfl
theorem VY (n m:Nat) (ys wo:List Int) (i:Int):aZ (ah [4] 2 (cn prog (ve []) 60 2 ((atoms z7).drop 7) ⟨slotsOf 42 [(0,.sl 0 0 0 1 n n false true),(5,.int .i64 i)],kg m ys wo,true⟩))=(aa true (aa true (decide (0<=i)&&decide (i<=(((n):Nat):Int))))):=by kernel_rfl
theorem aV.post {P:Program} {ro:Option Nat} {k:Nat}:∀{l:List Code} {s s1 s':St} {x:Exit},aV P ro k l s x s1->bE k s1 s'->l≠[]->aV P ro k l s x s'
 | [],_,_,_,_,_,_,h=>absurd rfl h
 | [_],_,_,_,_,.inl ⟨_,h1,h2,h3⟩,g,_=>.inl ⟨_,h1.post (h3▸g),h2,rfl⟩
 |_::_::_,_,_,_,_,.inl ⟨s2,h1,h2⟩,g,_=>.inl ⟨s2,h1,aV.post h2 g (by simp)⟩
 |_::_,_,_,_,_,.inr ⟨hx,h1⟩,g,_=>.inr ⟨hx,h1.post g⟩
theorem aV.og {P:Program} {ro:Option Nat} {k:Nat} {Γ:bO} (hΓ:ak P Γ) (n:Nat) (live:List Nat) (m:Nat) (hm:k<=m) {l:List Code} {s s':St} {x:Exit} (ob:Bool) (e:aA (ah live m (cn P Γ n k l s))=some (x,s'.t,s'.h)) (cA:aZ (ah live m (cn P Γ n k l s))=ob) (h:ob=true) (hl:l≠[]):aV P ro k l s x s':=by
 unfold aA ah at e
 unfold aZ ah at cA
 cases hr:cn P Γ n k l s with
 |none=>rw [hr] at e;cases e
 |some q=>
  obtain ⟨y,q⟩:=q
  rw [hr] at e cA
  simp only [Option.bind_some] at e cA
  cases hc:q.cut live m with
  |none=>rw [hc] at e;cases e
  |some q2=>
   rw [hc] at e cA
   simp only [aaH,No,aae] at e cA
   obtain ⟨rfl,h1,h2⟩:=e
   have hq:q.ob=true:=by
    unfold St.cut St.dn at hc
    split at hc
    ·cases hc;exact cA.trans h
    ·cases hc
   exact aV.post (aV.rest hΓ n hr hq) ((bE.cut hm hc).trans (bE.same h1 h2)) hl
theorem VE.cap (b o i z len cap VZ:Nat) (hc:VZ<=cap) {ex wh:Bool}:VE (.sl b o i z len cap ex wh) (.sl b o i z len VZ false false):=λe x h=>by
 rcases h with ⟨h1,h2,h3⟩|⟨p,c,a,h1,h2,h3,h4,_,h6,h7⟩
 ·exact .inl ⟨h1,by omega,h3⟩
 ·exact .inr ⟨p,c,a,h1,h2,h3,abi hc h4,(by simp),h6,h7⟩
theorem ai.aW {P:Program} {f:FuncId} {us:List SV} {h h1:List Blk} {v u:SV} (g:ai P f us h v h1) (q:VE v u):ai P f us h u h1:=ai.post g (bE.slot (t:=[some v]) 0 rfl q)
def b5 (xs wo:List Int):List Int:=xs.filter λx=>!hasB wo x
section
variable (xs wo:List Int) (i0:Nat)
def kj:Nat->Nat×List Int
 |0=>(i0,xs)
 |t+1=>match kj t with
  |(i,l)=>bif hasB wo (xs.getD (i0+1+t) 0) then (i,l) else (i+1,l.set i (xs.getD (i0+1+t) 0))
end
section
variable {xs wo:List Int} {i0:Nat}
theorem take_set {l:List Int} {i:Nat} {v:Int} (h:i<l.length):(l.set i v).take (i+1)=l.take i++[v]:=by
 rw [List.take_add_one,aay h,List.take_set_of_le (aaf _)];rfl
theorem DI (h:i0<xs.length) (hl:∀j,j<i0->hasB wo (xs.getD j 0)=false) (hi:hasB wo (xs.getD i0 0)=true):xs.take i0=b5 (xs.take (i0+1)) wo:=by
 unfold b5
 rw [List.take_add_one,List.filter_append,aai h,List.filter_eq_self.2,Option.toList_some,List.filter_cons, <-bY h,hi]
 ·simp
 ·intro a ha
  obtain ⟨j,hj,rfl⟩:=List.mem_iff_getElem.1 ha
  rw [aaU] at hj
  have:=hl j (by omega)
  rw [bY (by omega)] at this
  rw [List.getElem_take,this];rfl
theorem Kz (h:i0<xs.length) (hl:∀j,j<i0->hasB wo (xs.getD j 0)=false) (hi:hasB wo (xs.getD i0 0)=true):∀t,i0+1+t<=xs.length->(kj xs wo i0 t).1<=i0+t/\(kj xs wo i0 t).2.length=xs.length/\(∀q,i0+1+t<=q->(kj xs wo i0 t).2.getD q 0=xs.getD q 0)/\(kj xs wo i0 t).2.take (kj xs wo i0 t).1=b5 (xs.take (i0+1+t)) wo:=by
 intro t
 induction t with
 |zero=>intro _;exact ⟨by simp [kj],rfl,λ_ _=>rfl,DI h hl hi⟩
 |succ t ih=>
  intro ht
  obtain ⟨a1,a2,a3,a4⟩:=ih (by omega)
  unfold kj
  generalize kj xs wo i0 t=p at a1 a2 a3 a4
  obtain ⟨i,l⟩:=p
  simp only at a1 a2 a3 a4 ⊢
  have hk:b5 (xs.take (i0+1+(t+1))) wo=b5 (xs.take (i0+1+t)) wo++bif hasB wo (xs.getD (i0+1+t) 0) then [] else [xs.getD (i0+1+t) 0]:=by
   unfold b5
   rw [show i0+1+(t+1)=(i0+1+t)+1 by omega,List.take_add_one,List.filter_append,aai (show i0+1+t<xs.length by omega),Option.toList_some,List.filter_cons,bY (show i0+1+t<xs.length by omega)]
   cases hasB wo xs[i0+1+t]<;>rfl
  cases hb:hasB wo (xs.getD (i0+1+t) 0) with
  |true=>
   rw [hb] at hk
   exact ⟨by show i<=_;omega,a2,λq hq=>a3 q (by omega),by show l.take i=_;rw [hk,a4];simp⟩
  |false=>
   rw [hb] at hk
   refine ⟨by show i+1<=_;omega,by show (l.set i _).length=_;rw [List.length_set];exact a2,λq hq=>?_,?_⟩
   ·show (l.set i _).getD q 0=_
    rw [aba,aau (by omega), <-aba]
    exact a3 q (by omega)
   ·show (l.set i _).take (i+1)=_
    rw [hk,take_set (by omega),a4];rfl
theorem DJ {n:Nat} (hl:xs.length=n) (hn:n<=274877906944) (hw:wo.length<=274877906944):ai prog 110 [.sl 0 0 0 1 n n false true,Gj] (kg n xs wo) (.sl 0 0 0 1 (b5 xs wo).length (b5 xs wo).length false false) (kg (b5 xs wo).length (b5 xs wo) wo):=by
 have hw':=Me hw
 cases hv:b6 (λi=>!hasB wo (xs.getD i 0)) n with
 |none=>
  have hV:UP n xs wo=-1:=by unfold UP bP;rw [hv]
  have hk:b5 xs wo=xs:=List.filter_eq_self.2 λa ha=>by
   obtain ⟨j,hj,rfl⟩:=List.mem_iff_getElem.1 ha
   have:=cS hv j (by omega)
   rwa [bY hj] at this
  rw [hk,hl]
  refine ai.aW (ai.mk (vs:=[.sl 0 0 0 1 n n false true]) func110 rfl (x:=.ret) (s:=⟨slotsOf 42 [(4,.sl 0 0 0 1 n n false true)],kg n xs wo,true⟩) ?_ (.inl rfl) (by kernel_rfl)) (VE.cap 0 0 0 1 n n n (aaf n))
  refine aV.og (oe [(12,true)]) 60 _ 2 (aaf 2) _ (abm n xs wo) (VT n xs wo) ?_ (by intro q;have:=adX List.length q;revert this;decide)
  have h2:(bP (λi=>!hasB wo (xs.getD i 0)) n (λi=>((i:Nat):Int)) (-1)==-1)=true:=by rw [show bP _ n _ _=_ from hV];rfl
  rw [h2,hw',Me hn,Me hl];simp [aa]
 |some i0=>
  obtain ⟨f1,f2,f3⟩:=cX hv
  have hV:UP n xs wo=(i0:Int):=by unfold UP bP;rw [hv]
  have inv:=Kz (xs:=xs) (wo:=wo) (i0:=i0) (by omega) (λj hj=>by simpa using f3 j hj) (by simpa using f2)
  obtain ⟨e1,e2,e3,e4⟩:=inv (n-i0-1) (by omega)
  rw [show i0+1+(n-i0-1)=xs.length by omega,adA] at e4
  have hm:(b5 xs wo).length=(kj xs wo i0 (n-i0-1)).1:=by rw [<-e4,aaU];omega
  rw [hm]
  have hk:(kj xs wo i0 (n-i0-1)).1<=n:=by omega
  refine ai.aW (ai.mk (vs:=[.sl 0 0 0 1 (kj xs wo i0 (n-i0-1)).1 n false false]) func110 rfl (x:=.ret) (s:=⟨slotsOf 42 [(4,.sl 0 0 0 1 (kj xs wo i0 (n-i0-1)).1 n false false)],kg (kj xs wo i0 (n-i0-1)).1 (b5 xs wo) wo,true⟩) ?_ (.inl rfl) (by kernel_rfl)) (VE.cap 0 0 0 1 _ n _ hk)
  have eh:=abl n xs wo
  rw [hV,cq (by omega)] at eh
  refine aV.bk (oe [(12,false)]) 60 5 _ 2 (aaf 2) (s1:=DH n (kj xs wo i0 0).2 wo ((kj xs wo i0 0).1:Nat) ((i0+1+0:Nat):Int)) _ eh (VS n xs wo) ?_ (by decide) rfl ?_
  ·have h2:(bP (λi=>!hasB wo (xs.getD i 0)) n (λi=>((i:Nat):Int)) (-1)==-1)=false:=by
    rw [show bP _ n _ _=_ from hV];exact beq_false_of_ne (by omega)
   rw [h2,hw',Me hn,Me hl];simp [aa]
  refine aV.item 5 (by decide) (s1:=⟨slotsOf 42 [(0,.sl 0 0 0 1 n n false true),(5,.int .i64 ((kj xs wo i0 (n-i0-1)).1:Nat))],kg n (kj xs wo i0 (n-i0-1)).2 wo,true⟩) (Tr.loop 0 (by kernel_rfl) (λt=>DH n (kj xs wo i0 t).2 wo ((kj xs wo i0 t).1:Nat) ((i0+1+t:Nat):Int)) (n-i0-1) (λt ht=>?_) ?_) ?_
  ·obtain ⟨g1,g2,g3,_⟩:=inv t (by omega)
   have hj:i0+1+t<n:=by omega
   have gd:(kj xs wo i0 t).2.getD (i0+1+t) 0=xs.getD (i0+1+t) 0:=g3 _ (aaf _)
   have hs:kj xs wo i0 (t+1)=bif hasB wo (xs.getD (i0+1+t) 0) then kj xs wo i0 t else ((kj xs wo i0 t).1+1,(kj xs wo i0 t).2.set (kj xs wo i0 t).1 (xs.getD (i0+1+t) 0)):=by
    rw [kj]
   cases hb:hasB wo (xs.getD (i0+1+t) 0) with
   |true=>
    rw [hb,_root_.cond_true] at hs
    rw [hs]
    have e:=VV n (kj xs wo i0 t).2 wo ((kj xs wo i0 t).1:Nat) ((i0+1+t:Nat):Int)
    rw [cq (by omega)] at e
    exact Tr.aR (oe [(19,true),(28,true)]) 60 _ 2 (aaf 2) (s':=DH n (kj xs wo i0 t).2 wo ((kj xs wo i0 t).1:Nat) ((i0+1+t+1:Nat):Int)) _ e (Qb _ _ _ _ _) (by rw [fo hj,bf hj,aaa,abC,gd,hb,Me hj,hw'];rfl)
   |false=>
    rw [hb,_root_.cond_false] at hs
    rw [hs]
    have hi:(kj xs wo i0 t).1<n:=by omega
    have e:=VU n (kj xs wo i0 t).2 wo ((kj xs wo i0 t).1:Nat) ((i0+1+t:Nat):Int)
    rw [cq (by omega),cq (by omega),aaa,aaa,abC,abC,gd] at e
    exact Tr.aR (oe [(19,true),(28,false)]) 60 _ 2 (aaf 2) (s':=DH n ((kj xs wo i0 t).2.set (kj xs wo i0 t).1 (xs.getD (i0+1+t) 0)) wo (((kj xs wo i0 t).1+1:Nat):Int) ((i0+1+t+1:Nat):Int)) _ e (Qa _ _ _ _ _) (by rw [fo hj,bf hj,bf hi,aaa,aaa,abC,abC,gd,hb,Me hj,Me hi,hw',Me (show (kj xs wo i0 t).2.length=n by omega)];rfl)
  ·have e:=abn n (kj xs wo i0 (n-i0-1)).2 wo ((kj xs wo i0 (n-i0-1)).1:Nat) (n:Int)
   rw [show i0+1+(n-i0-1)=n by omega]
   exact Tr.aR (oe [(19,false)]) 60 _ 2 (aaf 2) _ e (VW n _ wo _ (n:Int)) (by rw [fA (aaf _)];rfl)
  generalize hq:kj xs wo i0 (n-i0-1)=q at e1 e2 e3 e4 hk
  refine aV.pre (s1:=⟨slotsOf 42 [(0,.sl 0 0 0 1 n n false true),(5,.int .i64 (q.1:Nat))],kg q.1 (b5 xs wo) wo,true⟩) ?_ (e4▸bE.Kv (b:=0) (t:=slotsOf 42 [(0,.sl 0 0 0 1 n n false true),(5,.int .i64 (q.1:Nat))]) (h:=kg n q.2 wo) rfl hk) (by intro q;have:=adX List.length q;revert this;decide)
  refine aV.item 6 (by decide) (s1:=⟨slotsOf 42 [(0,.sl 0 0 0 1 n n false true),(5,.int .i64 (q.1:Nat))],kg q.1 (b5 xs wo) wo,true⟩) ?_ ?_
  ·rw [show au 6 (aP f110)= .region 11 (opsOf (au 6 z7)) false by kernel_rfl]
   refine TrX.to (H:=HT) (H':=HT) (TrX.region 11 ?_) λ_ _ _=>trivial
   rw [show List.range (opsOf (au 6 z7)).size=[0,1,2]++[3] by kernel_rfl]
   have e:=abo n q.1 (b5 xs wo) wo (q.1:Nat)
   have e':=VX n q.1 (b5 xs wo) wo (q.1:Nat)
   rw [aaa,abC] at e
   refine OX.append (OX.abq (oe []) 60 _ 2 (aaf 2) (s':=⟨slotsOf 42 [(0,.sl 0 0 0 1 n n false true),(5,.int .i64 (q.1:Nat)),(38,.sl 0 0 q.1 1 (n-q.1) (n-q.1) false false)],kg q.1 (b5 xs wo) wo,true⟩) _ e e' (by rw [Me (show (0:Int)<=(q.1:Nat) by omega),Me (show ((q.1:Nat):Int)<=n by omega)];rfl)) ?_
   have hm2:(b5 xs wo).length=q.1:=hq▸hm
   refine OX.V0 (λ_ _ _ _ h=>h) (OX.clear (dst:=none) (ty:=27) (el:=3) (x:=.tmp 38) (xs:=b5 xs wo) (m:=q.1) (len:=n-q.1) (cap:=n-q.1) (ex:=false) (wh:=false) (b:=0) (by kernel_rfl) (by kernel_rfl) (by kernel_rfl) (by kernel_rfl) rfl rfl hm2) ?_
   exact (bE.keep 2 [0,5] _).trans (bE.same (by kernel_rfl) rfl)
  ·have e:=abp n q.1 (b5 xs wo) wo (q.1:Nat)
   rw [aaa] at e
   exact aV.og (oe []) 60 _ 2 (aaf 2) _ e (VY _ _ _ _ _) (by rw [Me (show (0:Int)<=(q.1:Nat) by omega),Me (show ((q.1:Nat):Int)<=n by omega)];rfl) (by intro q;have:=adX List.length q;revert this;decide)
end
end Go.Proofs.YthlnlcijnoadcaaGreatDoor.Mk
end
section
namespace Go.Proofs.YthlnlcijnoadcaaGreatDoor.Mk
open Go Go.Sy Tr Wi S2
def KA:Entry prog:=.mut 110 _ func110 (by decide) rfl Ca 0 (λus h0=>match us,h0 with
 | [.sl 0 0 0 1 n n' false true,.fn (.func 121) [] [.ptr 1 0 0]],[.b [.ints .i64 n2 xs],.b [.ro false .i64 wo]]=>some (.sl 0 0 0 1 (b5 xs wo).length (b5 xs wo).length false false,kg (b5 xs wo).length (b5 xs wo) wo,decide (n=n')&&decide (n=n2)&&decide (xs.length=n)&&decide (n<=274877906944)&&decide (wo.length<=274877906944))
 |_,_=>none) λus h0 v h1 e=>by
 split at e
 ·simp only [No,aae,aac,aab] at e
  obtain ⟨rfl,rfl,⟨⟨⟨rfl,rfl⟩,h3⟩,h4⟩,h5⟩:=e
  exact DJ h3 h4 h5
 ·cases e
abbrev cH:List Int:=List.replicate 32 0
abbrev AN:List Int:=bQ false 0 cH cH cH []
theorem yY {u:Bool} {nm:Int} {k s p:List Int} (h:aQ u nm k s p []=true):ai prog 118 [.agg [.bool u,.int .i64 nm,.ints .u8 32 k,.ints .u8 32 s,.ints .u8 32 p,.nl (.slice none 0 0)]] [] (.bC [.ro true .u8 (bQ u nm k s p []),.nl .nilIface]) []:=
 ai.conv (tE h) ⟨VE.agg (PE.last (ps:=[.bool u,.int .i64 nm,.ints .u8 32 k,.ints .u8 32 s,.ints .u8 32 p]) rfl rfl (VE.nN false .i64)),trivial⟩ trivial (VE.refl _) trivial
def DK:Entry prog:=.val 118 _ func118 (by decide) rfl true 0 (λvs=>match vs with
 | [.agg [.bool u,.int .i64 nm,.ints .u8 32 k,.ints .u8 32 s,.ints .u8 32 p,.nl (.slice none 0 0)]]=>some (.bC [.ro true .u8 (bQ u nm k s p []),.nl .nilIface],[],aQ u nm k s p [])
 |_=>none) λvs v new e=>by
 split at e
 ·simp only [No,aae] at e
  obtain ⟨rfl,rfl,h⟩:=e
  exact yY h
 ·cases e
def oh (n:aj) (un:List Int):List Int:=bQ n.used n.name n.key n.sign n.par un
def vI (t:Nat->aj) (wo:List Int) (x:Nat):List Int:=bif hasB wo ((x/2:Nat):Int) then AN else oh (t x) (t x).un
def mG (t:Nat->aj) (wo:List Int):Nat->Nat->List Int
 |0,x=>dB [[1,((x/2:Nat):Int)],vI t wo x].flatten
 |k+1,x=>dB [[2],oh (t x) (b5 (t x).un wo),mG t wo k (x-2^k),mG t wo k (x+2^k)].flatten
def cr (t:Nat->aj) (wo:List Int) (x:Int):List Int:=mG t wo (iM 7 x.toNat) x.toNat
def mH (n:aj) (un:List Int):Bool:=aQ n.used n.name n.key n.sign n.par un
def jc (N:Nat) (t:Nat->aj) (wo:List Int) (x:Int) (k:Nat):Bool:=((List.range N).all λi=>mH (t i) (t i).un&&mH (t i) (b5 (t i).un wo))&&ri N&&decide (0<=x)&&decide (x<N)&&decide (iM 7 x.toNat<k)&&decide (wo.length<=274877906944)
def vJ (k:Nat):Prop:=∀(N:Nat) (t:Nat->aj) (wo:List Int) (x:Int),cF N t->jc N t wo x k=true->
 ai prog 78 [.aJ false 99 N (aq t),.int .i64 x,.ro false .i64 wo] [] (.agg [.ints .u8 32 (cr t wo x)]) []
def Qc (k:Nat) (ih:vJ k):Entry prog:=.val 78 _ func78 (by decide) rfl true 0 (λvs=>match vs with
 | [.aJ false 99 N g,.int .i64 x,.ro false .i64 wo]=>some (.agg [.ints .u8 32 (cr (ag g) wo x)],[],bF N g&&decide (N<=71)&&jc N (ag g) wo x k)
 |_=>none) λvs v new e=>by
 split at e
 ·simp only [No,aae,aac,aab] at e
  obtain ⟨rfl,rfl,⟨h1,h2⟩,h3⟩:=e
  exact ai.conv (ih _ _ _ _ (cF.of h1 h2) h3) ⟨VE.tree h1,VE.refl _,VE.refl _,trivial⟩ trivial (VE.refl _) trivial
 ·cases e
def V1 (l:List (Nat×Bool)):bO:=mk (P:=prog) [gD,iL,DK,xg] [] (uT l)
theorem KB (l:List (Nat×Bool)):ak prog (V1 l):=az _ aL.nil _ _
def V2 (l:List (Nat×Bool)):bO:=mk (P:=prog) [gD,iL,yZ,xg] [] (uT l)
theorem KC (l:List (Nat×Bool)):ak prog (V2 l):=az _ aL.nil _ _
def Qd (l:List (Nat×Bool)):bO:=mk (P:=prog) [gD,iL,Kw,KA] [] (uT l)
theorem KD (l:List (Nat×Bool)):ak prog (Qd l):=az _ aL.nil _ _
def Qe (k:Nat) (ih:vJ k) (l:List (Nat×Bool)):bO:=mk (P:=prog) [yZ,Qc k ih,xg] [] (uT l)
theorem KE (k:Nat) (ih:vJ k) (l:List (Nat×Bool)):ak prog (Qe k ih l):=az _ aL.nil _ _
def dgB:Code:=aP f78
abbrev KF (wo:List Int) (n:aj) (v:SV):List Blk:=[.b [.ro false .i64 wo],.b [.ints .u8 32 cH],.b [.bool n.used,.int .i64 n.name,.ints .u8 32 n.key,.ints .u8 32 n.sign,.ints .u8 32 n.par,v]]
def KG (N:Nat) (t:Nat->aj) (l r:Int):List (Option SV):=slotsOf 69 [(0,.aJ false 99 N (aq t)),(5,.ptr 0 0 0),(6,.ptr 1 0 0),(7,.ptr 2 0 0),(8,.int .i64 l),(9,.int .i64 r)]
def dgS (N:Nat) (t:Nat->aj) (l r:Int) (wo:List Int) (n:aj) (un:List Int):St:=⟨KG N t l r,KF wo n (.ro false .i64 un),true⟩
theorem abt (N:Nat) (t:Nat->aj) (x:Int) (wo:List Int):(aG prog (V1 [(26,true),(30,true)]) 60 f78 [.aJ false 99 N (aq t),.int .i64 x,.ro false .i64 wo] []).map (λx=>(x.1,x.2.2))=some (.agg [.ints .u8 32 (dB [[1,u8.wrap (i64.wrap (x.tdiv 2))],AN].flatten)],aa (aa (aa (aa (aa (aa (aa true (aX x N)) (true&&(decide (x.toNat<N)&&true))) (aa true (decide (0<=x)&&decide (x<64)))) (decide (aN x<0))) (aa true (decide (wo.length<=274877906944)))) (hasB wo (i64.wrap (x.tdiv 2)))) (aa (aa true (aa (aa true (decide ((((List.replicate 2 0).set 0 1).set (0+1+0) (u8.wrap (i64.wrap (x.tdiv 2)))).length=2)&&true)) (decide ((((List.replicate 2 0).set 0 1).set (0+1+0) (u8.wrap (i64.wrap (x.tdiv 2)))).length=2)))) (decide (([((List.replicate 2 0).set 0 1).set (0+1+0) (u8.wrap (i64.wrap (x.tdiv 2))),bQ false 0 (List.replicate 32 0) (List.replicate 32 0) (List.replicate 32 0) []],aa (aa true (decide ((((List.replicate 2 0).set 0 1).set (0+1+0) (u8.wrap (i64.wrap (x.tdiv 2)))).length=2)&&(decide (2<=2)&&decide (0=0)))) (decide ((((List.replicate 2 0).set 0 1).set (0+1+0) (u8.wrap (i64.wrap (x.tdiv 2)))).length=2))).fst.flatten.length<274877900000)&&decide (([((List.replicate 2 0).set 0 1).set (0+1+0) (u8.wrap (i64.wrap (x.tdiv 2))),bQ false 0 (List.replicate 32 0) (List.replicate 32 0) (List.replicate 32 0) []],aa (aa true (decide ((((List.replicate 2 0).set 0 1).set (0+1+0) (u8.wrap (i64.wrap (x.tdiv 2)))).length=2)&&(decide (2<=2)&&decide (0=0)))) (decide ((((List.replicate 2 0).set 0 1).set (0+1+0) (u8.wrap (i64.wrap (x.tdiv 2)))).length=2))).fst.length<=274877906944)))):=by kernel_rfl
theorem abu (N:Nat) (t:Nat->aj) (x:Int) (wo:List Int):(aG prog (V2 [(26,true),(30,false)]) 60 f78 [.aJ false 99 N (aq t),.int .i64 x,.ro false .i64 wo] []).map (λx=>(x.1,x.2.2))=some (.agg [.ints .u8 32 (dB [[1,u8.wrap (i64.wrap (x.tdiv 2))],oh (t x.toNat) (t x.toNat).un].flatten)],aa (aa (aa (aa (aa (aa (aa (aa true (aX x N)) (true&&(decide (x.toNat<N)&&true))) (aa true (decide (0<=x)&&decide (x<64)))) (decide (aN x<0))) (aa true (decide (wo.length<=274877906944)))) !hasB wo (i64.wrap (x.tdiv 2))) (aa true (Wi.aQ (t x.toNat).used (t x.toNat).name (t x.toNat).key (t x.toNat).sign (t x.toNat).par (t x.toNat).un))) (aa (aa true (aa (aa true (decide ((((List.replicate 2 0).set 0 1).set (0+1+0) (u8.wrap (i64.wrap (x.tdiv 2)))).length=2)&&true)) (decide ((((List.replicate 2 0).set 0 1).set (0+1+0) (u8.wrap (i64.wrap (x.tdiv 2)))).length=2)))) (decide (([((List.replicate 2 0).set 0 1).set (0+1+0) (u8.wrap (i64.wrap (x.tdiv 2))),bQ (t x.toNat).used (t x.toNat).name (t x.toNat).key (t x.toNat).sign (t x.toNat).par (t x.toNat).un],aa (aa true (decide ((((List.replicate 2 0).set 0 1).set (0+1+0) (u8.wrap (i64.wrap (x.tdiv 2)))).length=2)&&(decide (2<=2)&&decide (0=0)))) (decide ((((List.replicate 2 0).set 0 1).set (0+1+0) (u8.wrap (i64.wrap (x.tdiv 2)))).length=2))).fst.flatten.length<274877900000)&&decide (([((List.replicate 2 0).set 0 1).set (0+1+0) (u8.wrap (i64.wrap (x.tdiv 2))),bQ (t x.toNat).used (t x.toNat).name (t x.toNat).key (t x.toNat).sign (t x.toNat).par (t x.toNat).un],aa (aa true (decide ((((List.replicate 2 0).set 0 1).set (0+1+0) (u8.wrap (i64.wrap (x.tdiv 2)))).length=2)&&(decide (2<=2)&&decide (0=0)))) (decide ((((List.replicate 2 0).set 0 1).set (0+1+0) (u8.wrap (i64.wrap (x.tdiv 2)))).length=2))).fst.length<=274877906944)))):=by kernel_rfl
theorem abv (N:Nat) (t:Nat->aj) (x:Int) (wo:List Int):aA (ah [0,5,6,7,8,9] 4 ((aE prog (Qd [(26,false)]) 60 0 6 (atoms dgB) ⟨aD f78.ntmps [.aJ false 99 N (aq t),.int .i64 x,.ro false .i64 wo],[],true⟩).map λs=>(Exit.normal,s)))=some (.normal,KG N t (aN x) (aH x),KF wo (t x.toNat) (.sl 3 0 0 1 (b5 (t x.toNat).un wo).length (b5 (t x.toNat).un wo).length false false)++[.b [.ints .i64 (b5 (t x.toNat).un wo).length (b5 (t x.toNat).un wo)]]):=by kernel_rfl
theorem V3 (N:Nat) (t:Nat->aj) (x:Int) (wo:List Int):aZ (ah [0,5,6,7,8,9] 4 ((aE prog (Qd [(26,false)]) 60 0 6 (atoms dgB) ⟨aD f78.ntmps [.aJ false 99 N (aq t),.int .i64 x,.ro false .i64 wo],[],true⟩).map λs=>(Exit.normal,s)))=(aa (aa (aa (aa (aa (aa true (aX x N)) (true&&(decide (x.toNat<N)&&true))) (aa true (decide (0<=x)&&decide (x<64)))) !decide (aN x<0)) (aa true (decide ((t x.toNat).un.length<=274877906944)))) (aa true (decide ((t x.toNat).un.length=(t x.toNat).un.length)&&decide ((t x.toNat).un.length=(t x.toNat).un.length)&&decide ((t x.toNat).un.length=(t x.toNat).un.length)&&decide ((t x.toNat).un.length<=274877906944)&&decide (wo.length<=274877906944)))):=by kernel_rfl
theorem abw (N:Nat) (t:Nat->aj) (l r:Int) (wo:List Int) (n:aj) (un:List Int) (k:Nat) (ih:vJ k):aA (ah [6] 2 (cn prog (Qe k ih []) 60 0 ((atoms dgB).drop 6) (dgS N t l r wo n un)))=some (.ret,slotsOf 69 [(6,.ptr 1 0 0)],[.b [.ro false .i64 wo],.b [.ints .u8 32 (dB [[2],oh n un,cr t wo l,cr t wo r].flatten)]]):=by kernel_rfl
theorem V4 (N:Nat) (t:Nat->aj) (l r:Int) (wo:List Int) (n:aj) (un:List Int) (k:Nat) (ih:vJ k):aZ (ah [6] 2 (cn prog (Qe k ih []) 60 0 ((atoms dgB).drop 6) (dgS N t l r wo n un)))=(aa (aa (aa (aa true (aa true (Wi.aQ n.used n.name n.key n.sign n.par un))) (aa true ((bF N λi=>af (aq t i))&&decide (N<=71)&&jc N (ag λi=>af (aq t i)) wo l k))) (aa true ((bF N λi=>af (aq t i))&&decide (N<=71)&&jc N (ag λi=>af (aq t i)) wo r k))) (aa (aa true (aa (aa (aa (aa true (decide ((cr (ag λi=>af (aq t i)) wo r).length=32)&&true)) (decide ((cr (ag λi=>af (aq t i)) wo r).length=32))) (decide ((cr (ag λi=>af (aq t i)) wo l).length=32)&&true)) (decide ((cr (ag λi=>af (aq t i)) wo l).length=32)))) (decide (([(List.replicate 1 0).set 0 2,bQ n.used n.name n.key n.sign n.par un,cr (ag λi=>af (aq t i)) wo l,cr (ag λi=>af (aq t i)) wo r],aa (aa (aa (aa (aa (aa true (decide ((cr (ag λi=>af (aq t i)) wo r).length=32)&&(decide ((32)<=32)&&decide ((0+0)=0)))) (decide ((cr (ag λi=>af (aq t i)) wo r).length=32))) (decide ((cr (ag λi=>af (aq t i)) wo l).length=32)&&(decide ((32)<=32)&&decide ((0+0)=0)))) (decide ((cr (ag λi=>af (aq t i)) wo l).length=32))) (decide (((List.replicate 1 0).set 0 2).length=1)&&(decide (1<=1)&&decide (0=0)))) (decide (((List.replicate 1 0).set 0 2).length=1))).fst.flatten.length<274877900000)&&true))):=by kernel_rfl
theorem Gl:((List.range 64).all λx=>i64.wrap ((x:Int).tdiv 2)==((x/2:Nat):Int)&&u8.wrap (i64.wrap ((x:Int).tdiv 2))==((x/2:Nat):Int))=true:=by decide+kernel
theorem Cb {x:Nat} (h:x<64):i64.wrap ((x:Int).tdiv 2)=((x/2:Nat):Int)/\u8.wrap (i64.wrap ((x:Int).tdiv 2))=((x/2:Nat):Int):=by
 have:=aah.1 Gl x (aan.2 h)
 simpa only [aac,aaS] using this
theorem Gm (t:Nat->aj) (wo:List Int) (k x:Nat):(mG t wo k x).length=32:=by cases k<;>(unfold mG;exact tF _)
theorem jd (t:Nat->aj) (wo:List Int) (x:Int):(cr t wo x).length=32:=Gm ..
theorem pJ {n:aj} {un:List Int} (h:mH n un=true):(oh n un).length<=131:=by
 unfold mH Wi.aQ at h
 simp only [aac,aab] at h
 obtain ⟨⟨⟨⟨⟨⟨⟨⟨hk,hs⟩,hp⟩,h0⟩,h1⟩,hu⟩,hr⟩,hl⟩,hz⟩:=h
 unfold oh
 rw [qp hk hs hp];omega
theorem AO:AN.length<=131:=pJ (n:=⟨false,0,cH,cH,cH,[]⟩) (un:=[]) (by decide+kernel)
theorem VE.AP (f:Bool) (k:IntKind) (l:List Int):VE (.ro f k l) (.ro false k l):=λe v h=>by
 rcases h with h|⟨n,o,cap,c,t,fr,h1,h2,_,h4⟩
 ·exact .inl h
 ·exact .inr ⟨n,o,cap,c,t,fr,h1,h2,by simp,h4⟩
theorem abx (N:Nat) (t:Nat->aj) (l r:Int) (wo:List Int) (n:aj) (un:List Int) (m:Nat):St.fz 3 ⟨KG N t l r,KF wo n (.sl 3 0 0 1 m m false false)++[.b [.ints .i64 m un]],true⟩=some (⟨KG N t l r,KF wo n (.ro true .i64 ((un.drop 0).take m))++[.b []],true⟩,aa (decide (un.length=m)) (aa ((KG N t l r).all λo=>match o with|some v=>lW 3 m v|none=>true) (lQ 3 m (KF wo n (.sl 3 0 0 1 m m false false)++[.b [.ints .i64 m un]]) 0))):=by kernel_rfl
theorem Qf (N:Nat) (t:Nat->aj) (l r:Int) (wo:List Int) (n:aj) (un:List Int):bE 0 ⟨KG N t l r,KF wo n (.sl 3 0 0 1 un.length un.length false false)++[.b [.ints .i64 un.length un]],true⟩ (dgS N t l r wo n un):=by
 have e:=abx N t l r wo n un un.length
 have e2:lQ 3 un.length (KF wo n (.sl 3 0 0 1 un.length un.length false false)++[.b [.ints .i64 un.length un]]) 0=true:=by simp [lQ,xh,lW,lR,aC]
 have e3:((KG N t l r).all λo=>match o with|some v=>lW 3 un.length v|none=>true)=true:=by kernel_rfl
 rw [e2,e3,Me rfl,adN,adA] at e
 refine (bE.freeze (k:=0) (b:=3) (aap _) e).trans ?_
 refine (bE.dn (n:=3) (aap _) (s':=⟨KG N t l r,KF wo n (.ro true .i64 un),true⟩) (by kernel_rfl)).trans ?_
 exact bE.vc ⟨PE.refl _,PE.refl _,PE.last (ps:=[.bool n.used,.int .i64 n.name,.ints .u8 32 n.key,.ints .u8 32 n.sign,.ints .u8 32 n.par]) rfl rfl (VE.AP true .i64 un),trivial⟩
section
variable {N:Nat} {t:Nat->aj} {wo:List Int}
theorem tG {k:Nat} (hn:((List.range N).all λi=>mH (t i) (t i).un&&mH (t i) (b5 (t i).un wo))=true) (ht:ri N=true) (hw:wo.length<=274877906944) {y:Nat} (hy:y<N) (hk:iM 7 y<k):jc N t wo (y:Int) k=true:=by
 unfold jc
 rw [hn,ht,aaa,Me hk,Me (show (y:Int)<N by omega),Me (show (0:Int)<=y by omega),Me hw];rfl
theorem vK:∀k,vJ k:=by
 intro k
 induction k with
 |zero=>intro N t wo x hT h;simp [jc] at h
 |succ k ih=>
  intro N t wo x hT h
  unfold jc at h
  simp only [aac,aab] at h
  obtain ⟨⟨⟨⟨⟨hu,ht⟩,h0⟩,hx⟩,hk⟩,hw⟩:=h
  obtain ⟨y,rfl⟩:=aaB h0
  rw [aaa] at hk
  have hx:y<N:=by omega
  obtain ⟨n,hn,hN⟩:=ko ht
  have hs:=bu hn
  have hin:aX (y:Int) N=true:=bf hx
  have hun:=aah.1 hu y (aan.2 hx)
  rw [aac] at hun
  obtain ⟨f1,f2⟩:=Cb (x:=y) (by omega)
  cases hl:iM 7 y with
  |zero=>
   have hV:cr t wo (y:Int)=dB [[1,((y/2:Nat):Int)],vI t wo y].flatten:=by unfold cr;rw [aaa,hl,mG]
   have hleft:=(pK hn (hN▸hx) hl).1
   rw [hV]
   unfold vI
   cases hb:hasB wo ((y/2:Nat):Int) with
   |true=>
    have e:=abt N t y wo
    rw [f2] at e
    have hB:(bQ false 0 (List.replicate 32 0) (List.replicate 32 0) (List.replicate 32 0) []).length<=131:=AO
    refine aI (KB [(26,true),(30,true)]) 60 func78 e ?_ rfl
    rw [f1,hb,hin,aaa,Me hx,hleft,Me hw,Me (show (0:Int)<=y by omega),Me (show (y:Int)<64 by omega)]
    generalize bQ false 0 (List.replicate 32 0) (List.replicate 32 0) (List.replicate 32 0) []=W at hB ⊢
    simp [aC]
    omega
   |false=>
    have e:=abu N t y wo
    rw [f2,aaa] at e
    have hB:=pJ hun.1
    refine aI (KC [(26,true),(30,false)]) 60 func78 e ?_ rfl
    rw [f1,hb,hin,Me hx,hleft,Me hw,Me (show (0:Int)<=y by omega),Me (show (y:Int)<64 by omega),show Wi.aQ _ _ _ _ _ _=true from hun.1]
    unfold oh at hB
    simp [aC]
    omega
  |succ j=>
   obtain ⟨h1,h2,h3,h4,h5,h6,h7⟩:=je hn (hN▸hx) hl
   have hV:cr t wo (y:Int)=dB [[2],oh (t y) (b5 (t y).un wo),cr t wo ((y-2^j:Nat):Int),cr t wo ((y+2^j:Nat):Int)].flatten:=by
    unfold cr;rw [aaa,aaa,aaa,hl,h5,h6,mG]
   have hok:bF N (λi=>af (aq t i))=true:=bq hT
   have r1:jc N (ag λi=>af (aq t i)) wo ((y-2^j:Nat):Int) k=true:=tG (t:=t) hu ht hw (by omega) (by omega)
   have r2:jc N (ag λi=>af (aq t i)) wo ((y+2^j:Nat):Int) k=true:=tG (t:=t) hu ht hw (by omega) (by omega)
   have d1:(cr (ag λi=>af (aq t i)) wo ((y-2^j:Nat):Int)).length=32:=jd ..
   have d2:(cr (ag λi=>af (aq t i)) wo ((y+2^j:Nat):Int)).length=32:=jd ..
   have hB:=pJ hun.2
   rw [hV]
   have ea:=abv N t y wo
   have ea':=V3 N t y wo
   rw [h1,h2,aaa] at ea
   have eb:=abw N t ((y-2^j:Nat):Int) ((y+2^j:Nat):Int) wo (t y) (b5 (t y).un wo) k ih
   have eb':=V4 N t ((y-2^j:Nat):Int) ((y+2^j:Nat):Int) wo (t y) (b5 (t y).un wo) k ih
   generalize hL:dB [[2],oh (t y) (b5 (t y).un wo),cr t wo ((y-2^j:Nat):Int),cr t wo ((y+2^j:Nat):Int)].flatten=L at eb
   refine ai.yN (v:=.agg [.ints .u8 32 L]) (h1:=[.b [.ro false .i64 wo],.b [.ints .u8 32 L]]) [] ?_ rfl
   refine ai.mk (vs:=[.agg [.ints .u8 32 L]]) func78 rfl (x:=.ret) (s:=⟨slotsOf 69 [(6,.ptr 1 0 0)],[.b [.ro false .i64 wo],.b [.ints .u8 32 L]],true⟩) ?_ (.inl rfl) (by kernel_rfl)
   refine aV.bk (KD [(26,false)]) 60 6 _ 4 (aap _) (s1:=⟨KG N t ((y-2^j:Nat):Int) ((y+2^j:Nat):Int),KF wo (t y) (.sl 3 0 0 1 (b5 (t y).un wo).length (b5 (t y).un wo).length false false)++[.b [.ints .i64 (b5 (t y).un wo).length (b5 (t y).un wo)]],true⟩) _ ea ea' ?_ (by decide) rfl ?_
   ·rw [hin,aaa,Me hx,h1,Me hw,Me (show (0:Int)<=y by omega),Me (show (y:Int)<64 by omega),Me (hT.un y hx),aam (show ¬((y-2^j:Nat):Int)<0 by omega),Me (Eq.refl (t y).un.length)];rfl
   refine aV.pre ?_ (Qf N t ((y-2^j:Nat):Int) ((y+2^j:Nat):Int) wo (t y) (b5 (t y).un wo)) (by intro q;have:=adX List.length q;revert this;decide)
   refine aV.og (KE k ih []) 60 _ 2 (aap _) _ eb eb' ?_ (by intro q;have:=adX List.length q;revert this;decide)
   rw [hok,Me hT.le,r1,r2,d1,d2,show Wi.aQ _ _ _ _ _ _=true from hun.2]
   unfold oh at hB
   simp [aC,jd]
   omega
end
end Go.Proofs.YthlnlcijnoadcaaGreatDoor.Mk
end
