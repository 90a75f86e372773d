/- This file holds the texts TrU, TrV, TrX, TrW, a section each. No conditions beyond those in the theorems. -/
import Derived.Test.YthlnlcijnoadcaaGreatDoorGTrT
noncomputable section
open Go.IntKind (i64 u8 u64 u32)
set_option linter.all false
section
namespace Go.Proofs.YthlnlcijnoadcaaGreatDoor.Tr
open Go Go.Sy
def rmH (N:Nat) (t:Nat->aj) (c:Int):List Blk:=[.b [.int .i64 c],.b [.rows 99 N (aq t)],.b [.bK 1 99 N N false]]
def tN (N:Nat) (t u:Nat->aj) (i c:Int):St:=⟨slotsOf 52 [(1,.int .i64 i),(7,.bK 4 99 N N false)],rmH N t c++[.gap,.b [.rows 99 N (aq u)]],true⟩
def z9 (N:Nat) (t u:Nat->aj) (c:Int) (n:Nat) (ex:Bool):St:=⟨slotsOf 52 [(7,.bK 4 99 n n ex)],rmH N t c++[.gap,.b [.rows 99 N (aq u)]],true⟩
end Go.Proofs.YthlnlcijnoadcaaGreatDoor.Tr
end
section
namespace Go.Proofs.YthlnlcijnoadcaaGreatDoor.Tr
open Go Go.Sy
theorem cF.upd {N x:Nat} {t:Nat->aj} {n:aj} (h:cF N t) (h1:n.un.length<=274877906944) (h2:n.key.length=32) (h3:n.sign.length=32) (h4:n.par.length=32):cF N (c7 t x n):=by
 refine ⟨h.le,λi hi=>?_,λi hi=>?_,λi hi=>?_,λi hi=>?_⟩<;>unfold c7<;>by_cases hx:i=x
 ·rw [aaM hx];exact h1
 ·rw [aaC hx];exact h.un i hi
 ·rw [aaM hx];exact h2
 ·rw [aaC hx];exact h.key i hi
 ·rw [aaM hx];exact h3
 ·rw [aaC hx];exact h.sign i hi
 ·rw [aaM hx];exact h4
 ·rw [aaC hx];exact h.par i hi
theorem cF.zero {N x:Nat} {t:Nat->aj} (h:cF N t):cF N (c7 t x eX):=h.upd (by simp [eX]) (by simp [eX]) (by simp [eX]) (by simp [eX])
theorem xP:((List.range 72).all λn=>decide (0<=i64.wrap ((aO (n:Nat)).tdiv 2))&&decide (i64.wrap ((aO (n:Nat)).tdiv 2)<=71))=true:=by decide+kernel
theorem zP {n:Nat} (hn:n<=71):decide (0<=i64.wrap ((aO (n:Nat)).tdiv 2))=true/\decide (i64.wrap ((aO (n:Nat)).tdiv 2)<=71)=true:=by
 have:=aah.1 xP n (aan.2 (by omega))
 exact abS.1 this
section
variable {N:Nat} {t:Nat->aj} {i:Int}
end
end Go.Proofs.YthlnlcijnoadcaaGreatDoor.Tr
end
section
namespace Go.Sy
open Go
section
variable {P:Program}
theorem zi {α:Type} (L:List α) {n z i:Nat} (hi:i<n):((L.take (n*z)).drop (i*z)).take z=(L.drop (i*z)).take z:=by
 have:i*z+z<=n*z:=by
  have:=aaD z (show i+1<=n by omega)
  rw [abJ,Nat.one_mul] at this
  exact this
 rw [adi,adD,ab6 (by omega)]
theorem ai.xx {f:FuncId} {args:List SV} {v u:SV} {z n len cap:Nat} {ex:Bool} {g:Nat->List SV} (hlen:len<=n)
  (hu:∀(e e':Env) (x:Value),(∀m o,e.z m=some o->e'.z m=some o)->e'.n0=e.n0->(∀y,VR e (.bK 0 z len cap ex) y->VR e' (.aJ true z len g) y)->VR e v x->VR e' u x) (k:ai P f args [] v [.b [.rows z n g]]):ai P f args [] u []:=by
 intro B e w args' hB hl R
 refine (k B e w args' hB hl R).mono ?_
 rintro en w' ⟨v',rfl,e1,hm,hv,S⟩
 have hk0:B.k=0:=by simpa using hB
 have hBr:∀i p,B.e.r i≠some p:=λi p hi=>by have:=S.kr i p hi;omega
 have h1r:∀i,i≠0->e1.r i=none:=λi hi=>by
  cases hq:e1.r i with
  |none=>rfl
  |some p=>have:=S.dom i p hq;simp at this;omega
 have fin:∀(zz:Nat->Option (Array Value×TypeId×(Nat×Nat))),(∀m o,e1.z m=some o->zz m=some o)->(∀m c t fr,zz m=some (c,t,fr)->w'.heap[m]? =some (.cells c t fr))->(∀m x,zz m=some x->B.e.z m=some x\/B.w.heap.size<=m)->Rel B {e1 with r:=λ_=>none,z:=zz} [] w':=λzz z1 z2 z3=>{
  os:=S.os,tape:=S.tape,output:=S.output,size:=S.size
  inj:=λi j p q hi=>by cases hi
  dom:=λi p hi=>by cases hi
  sep:=λi p hi=>by cases hi
  eU:=z2,bp:=z3
  dU:=λgg K xs hg=>(S.dU gg K xs hg).imp λc ⟨t,fr,q1,q2⟩=>⟨t,fr,z1 _ _ q1,q2⟩
  news:=λi p hi=>by cases hi
  bA:=λi p hi=>absurd hi (hBr i p)
  bM:=λm x hm=>z1 m x (S.bM m x hm)
  n0:=S.n0,cI:=S.cI
  ew:=λi ps hi=>by simp at hi
  gap:=λi g hi=>by simp at hi
  yi:=S.yi,yb:=S.yb,old:=S.old
  win:=λi p hi=>absurd hi (hBr i p)
  kr:=S.kr,fO:=by rw [hk0];exact aap _
  fc:=S.fc,gJ:=S.gJ}
 rcases S.ew 0 _ rfl with ⟨g1,g2⟩|⟨p,o,g1,g2,c,ty,rfl,g3,g4,g5⟩
 ·refine ⟨v',rfl,{e1 with r:=λ_=>none},hm,hu e1 _ v' (λ_ _ h=>h) rfl (λy hy=>?_) hv,fin e1.z (λ_ _ h=>h) S.eU (λm x hx=>?_)⟩
  ·rcases hy with ⟨q1,_,a,rfl⟩|⟨p,_,_,q1,_⟩
   ·exact .inl ⟨q1,a,0,rfl,λ_=>rfl⟩
   ·rw [g2] at q1;cases q1
  ·exact S.bp m x hx
 ·have PK:e1.z p.n=none:=S.sep 0 p g1
  have hnew:B.w.heap.size<=p.n:=(S.news 0 p g1).resolve_left (hBr 0 p)
  have JS:∀m o,e1.z m=some o->(if m=p.n then some (c,ty,(0,0)) else e1.z m)=some o:=λm o h=>by
   rw [aaC (λq=>by rw [q,PK] at h;cases h)];exact h
  obtain ⟨us,zs,q1,q2,q3,q4⟩:=PR.fN.1 g5
  rw [PR] at q3
  subst q3
  rw [aaz] at q4
  have hps:av [SV.rows z n g]=n*z:=by simp [av,gS]
  rw [hps] at q4 g4
  refine ⟨v',rfl,{e1 with r:=λ_=>none,z:=λm=>if m=p.n then some (c,ty,(0,0)) else e1.z m},hm,hu e1 _ v' JS rfl (λy hy=>?_) hv,fin _ JS (λm c' t' fr hx=>?_) (λm x hx=>?_)⟩
  ·rcases hy with ⟨h1,_,a,rfl⟩|⟨p',cap',a,h1,rfl,h3,h4,h5,h6,h7⟩
   ·exact .inl ⟨h1,a,0,rfl,λ_=>rfl⟩
   ·rw [g1] at h1
    cases h1
    by_cases hc:cap'=0
    ·subst hc
     exact .inl ⟨by omega,some ⟨p.n,a,none⟩,0,by rw [show len=0 by omega],λ_=>rfl⟩
    ·have ha:=h3 hc
     have hcs:=h7 hc
     refine .inr ⟨p.n,a,cap',c,ty,(0,0),rfl,aaM rfl,λ_=>?_,λi hi=>?_,h6,by omega⟩
     ·show e1.n0<=p.n
      rw [S.n0]
      exact abi S.cI hnew
     ·have:=q2 i (by omega)
      rw [<-q4,zi _ (show i<n by omega),aa4] at this
      rw [ha]
      exact PR.mono' (e:=⟨λ_=>none,e1.z,e1.n0,[],λ_=>none⟩) (e':=⟨λ_=>none,λm=>if m=p.n then some (c,ty,(0,0)) else e1.z m,e1.n0,[],λ_=>none⟩) JS (aaf _) _ _ (λj q _ h=>by cases h) this
  ·have hx':(if m=p.n then some (c,ty,(0,0)) else e1.z m)=some (c',t',fr):=hx
   split at hx'
   ·rename_i q;cases hx';rw [q];exact g2
   ·exact S.eU m c' t' fr hx'
  ·have hx':(if m=p.n then some (c,ty,(0,0)) else e1.z m)=some x:=hx
   split at hx'
   ·rename_i q;right;omega
   ·exact S.bp m x hx'
end
end Go.Sy
end
section
namespace Go.Proofs.YthlnlcijnoadcaaGreatDoor.Tr
open Go Go.Sy
def I7:List SV->Option aj
 | [.bool u,.int .i64 n,.ints .u8 32 k,.ints .u8 32 s,.ints .u8 32 p,.ro false .i64 un]=>some ⟨u,n,k,s,p,un⟩
 | [.bool u,.int .i64 n,.ints .u8 32 k,.ints .u8 32 s,.ints .u8 32 p,.nl (.slice none 0 0)]=>some ⟨u,n,k,s,p,[]⟩
 |_=>none
theorem xQ {l:List SV} {n:aj} (h:I7 l=some n):PE l n.cells:=by
 unfold I7 at h
 split at h
 ·cases h;exact PE.refl _
 ·rename_i u n' k s p
  cases h
  exact PE.last (ps:=[.bool u,.int .i64 n',.ints .u8 32 k,.ints .u8 32 s,.ints .u8 32 p]) rfl rfl (VE.nN false .i64)
 ·cases h
def YS (N:Nat) (t:Nat->aj):Nat:=((List.range 32).find? λj=>!(decide (2*j<N)&&(t (2*j)).used)).getD 32
def aeq (N:Nat) (t:Nat->aj):Nat:=bif decide (2*YS N t<N) then N else 2*N+1
def XO (N:Nat) (t:Nat->aj):Nat:=(aO (aeq N t)).toNat
theorem PE.one (z:Nat) {ps:List SV} {g:Nat->List SV} (hz:av ps=z) (hc:cO ps=true) (h:PE ps (g 0)):PE ps [.rows z 1 g]:=by
 refine ⟨by simp [av,gS,hz],λe ys q=>PR.fN.2 ⟨ys,[],by rw [q.length];omega,λi hi=>?_,rfl,by simp⟩⟩
 obtain rfl:i=0:=by omega
 have hl:=q.length
 rw [Nat.zero_mul,adN,aao (by omega)]
 exact h.2 _ _ (q.closed hc)
end Go.Proofs.YthlnlcijnoadcaaGreatDoor.Tr
end
