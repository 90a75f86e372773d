/- This file holds the texts ShD, ShE, ShF, a section each. No conditions beyond those in the theorems. -/
import Derived.Test.YthlnlcijnoadcaaGreatDoorGShC
noncomputable section
open Go.Proofs.Tryz
open Go.IntKind (i64 u8 u64 u32)
set_option linter.all false
set_option maxRecDepth 100000
section
namespace Go.Proofs.YthlnlcijnoadcaaGreatDoor.Sh
open Go Go.Sy
def cB:Code:=aP f136
def J0 (a c:Bool):bO:=mk (P:=prog) [Ye] [] (λi=>if i=12 then some a else if i=20 then some false else if i=28 then some c else none) λi=>i=33
theorem lB (a c:Bool):ak prog (J0 a c):=az _ aL.nil _ _
def c1 (xss:List (List Int)) (n i:Int):St:=⟨slotsOf 36 [(0,.gf false xss),(2,.nl (.slice none 0 0)),(3,.int .i64 n),(9,.gf false xss),(10,.int .i64 xss.length),(11,.int .i64 i)],[],true⟩
def c2 (xss:List (List Int)) (N m:Nat) (l:List Int) (i:Int):St:=⟨slotsOf 36 [(6,.sl 0 0 0 1 m N false false),(25,.gf false xss),(26,.int .i64 xss.length),(27,.int .i64 i)],[.b [.ints .u8 N l]],true⟩
section
variable (xss:List (List Int)) (n i:Int) (N m:Nat) (l:List Int)
theorem Mh:(aE prog (J0 true true) 60 0 3 (atoms cB) ⟨aD f136.ntmps [.gf false xss],[],true⟩).bind (St.cut [0,2,3,9,10,11] 0)=some (c1 xss 0 0):=by kernel_rfl
theorem RJ:(exec prog (J0 true true) 60 0 (inner (inner (au 3 cB))) (c1 xss n i)).bind (λr=>(r.2.cut [0,2,3,9,10,11] 0).map λq=>(r.1,q))=
  some (.normal,{c1 xss (i64.wrap (n+(xss.getD i.toNat []).length)) (i64.wrap (i+1)) with ob:=aa (aa (aa (aa true (decide (i<xss.length))) (aX i xss.length)) (decide (i.toNat<xss.length))) (!decide (i64.wrap (n+(xss.getD i.toNat []).length)<0))}):=by kernel_rfl
theorem Mi:(exec prog (J0 false true) 60 0 (inner (inner (au 3 cB))) (c1 xss n i)).bind (λr=>(r.2.cut [0,2,3,9,10,11] 0).map λq=>(r.1,q))=
  some (.exit 0,{c1 xss n i with ob:=aa true (!decide (i<xss.length))}):=by kernel_rfl
theorem RK:(aE prog (J0 true true) 60 0 2 ((atoms cB).drop 4) (c1 xss n i)).bind (St.cut [6,25,26,27] 1)=
  some {c2 xss n.toNat 0 (List.replicate n.toNat 0) 0 with ob:=aa true (aa true (decide (0<=n)&&decide (n<=274877906944)))}:=by kernel_rfl
theorem RL:(exec prog (J0 true true) 60 0 (inner (inner (au 6 cB))) (c2 xss N m l i)).bind (λr=>(r.2.cut [6,25,26,27] 1).map λq=>(r.1,q))=
  some (.normal,{c2 xss N (m+(xss.getD i.toNat []).length) (De l (0+m) (xss.getD i.toNat []) (xss.getD i.toNat []).length) (i64.wrap (i+1)) with ob:=aa (aa (aa (aa true (decide (i<xss.length))) (aX i xss.length)) (decide (i.toNat<xss.length))) (aa (aa true (decide (m+(xss.getD i.toNat []).length<=N)))
    (decide (l.length=N)&&decide (0+m+(xss.getD i.toNat []).length<=N)&&decide ((xss.getD i.toNat []).length<=(xss.getD i.toNat []).length)))}):=by kernel_rfl
theorem Mj:(exec prog (J0 true false) 60 0 (inner (inner (au 6 cB))) (c2 xss N m l i)).bind (λr=>(r.2.cut [6,25,26,27] 1).map λq=>(r.1,q))=
  some (.exit 2,{c2 xss N m l i with ob:=aa true (!decide (i<xss.length))}):=by kernel_rfl
end
def tot (xss:List (List Int)) (i:Nat):Nat:=(xss.take i).flatten.length
theorem vW {xss:List (List Int)} {i:Nat} (h:i<xss.length):(xss.take (i+1)).flatten=(xss.take i).flatten++xss.getD i []:=by
 have e:xss.take (i+1)=xss.take i++[xss[i]]:=by simp
 have g:xss.getD i []=xss[i]:=by simp [List.getD,aai h]
 rw [e,g,List.flatten_append,List.flatten_cons,List.flatten_nil,aaz]
theorem uo {xss:List (List Int)} {i:Nat} (h:i<xss.length):tot xss (i+1)=tot xss i+(xss.getD i []).length:=by
 unfold tot;rw [vW h,aar]
theorem Bj (xss:List (List Int)) (i:Nat):tot xss i<=xss.flatten.length:=by
 have:xss.flatten=(xss.take i).flatten++(xss.drop i).flatten:=by rw [<-List.flatten_append,abr]
 unfold tot
 rw [this,aar];omega
theorem sj (xss:List (List Int)):tot xss xss.length=xss.flatten.length:=by unfold tot;rw [adA]
def jJ (xss:List (List Int)) (i:Nat):List Int:=(xss.take i).flatten++List.replicate (xss.flatten.length-tot xss i) 0
theorem Ep (xss:List (List Int)) (i:Nat):(jJ xss i).length=xss.flatten.length:=by
 have:=Bj xss i
 unfold jJ
 rw [aar,List.length_replicate]
 unfold tot at*;omega
theorem Bk {xss:List (List Int)} {i:Nat} (h:i<xss.length):De (jJ xss i) (0+tot xss i) (xss.getD i []) (xss.getD i []).length=jJ xss (i+1):=by
 unfold De
 have h1:(jJ xss i).take (0+tot xss i)=(xss.take i).flatten:=by
  unfold jJ
  rw [abC]
  exact List.take_left' rfl
 have h2:(jJ xss i).drop (0+tot xss i+(xss.getD i []).length)=List.replicate (xss.flatten.length-tot xss (i+1)) 0:=by
  unfold jJ
  rw [List.drop_append,uo h,List.drop_of_length_le (by unfold tot;omega),List.nil_append,List.drop_replicate]
  congr 1
  unfold tot;omega
 rw [h1,h2,adA]
 unfold jJ
 rw [vW h]
theorem OS {xss:List (List Int)} (h1:xss.flatten.length<=274877906944) (h2:xss.length<=274877906944):ai prog 136 [.gf false xss] [] (.sl 0 0 0 1 xss.flatten.length xss.flatten.length false false) [.b [.ints .u8 xss.flatten.length xss.flatten]]:=by
 have l1:Tr prog none 0 (au 3 cB) (c1 xss 0 0) .normal (c1 xss xss.flatten.length xss.length):=by
  have key:=Tr.loop (P:=prog) (ro:=none) (k:=0) 0 (c:=au 3 cB) (by kernel_rfl) (λj:Nat=>c1 xss (tot xss j) j) xss.length (s':=c1 xss xss.flatten.length xss.length) (λj hj=>?_) ?_
  ·exact key
  ·have k:=RJ xss (tot xss j) j
   have t1:=Bj xss (j+1)
   have t2:=uo hj
   rw [aaa,wrap_i64 _ (by omega) (by omega),wrap_i64 _ (by omega) (by omega)] at k
   refine Tr.post (Tr.cut (lB true true) 60 _ 0 (by omega) k ?_) (bE.same ?_ rfl)
   ·simp only [aC,aab,aaY,ac7,true_and]
    exact ⟨⟨⟨by omega,ct (by omega) (by omega)⟩,by omega⟩,by omega⟩
   ·show (c1 _ _ _).t=(c1 _ _ _).t
    rw [show ((tot xss j:Nat):Int)+((xss.getD j []).length:Nat)=((tot xss (j+1):Nat):Int) by omega,show ((j:Int)+1)=((j+1:Nat):Int) by omega]
  ·have k:=Mi xss (tot xss xss.length) xss.length
   rw [sj] at k ⊢
   exact Tr.post (Tr.cut (lB false true) 60 _ 0 (by omega) k (by simp [aa])) (bE.same rfl rfl)
 have l2:Tr prog none 0 (au 6 cB) (c2 xss xss.flatten.length 0 (List.replicate xss.flatten.length 0) 0) .normal (c2 xss xss.flatten.length xss.flatten.length xss.flatten xss.length):=by
  have key:=Tr.loop (P:=prog) (ro:=none) (k:=0) 2 (c:=au 6 cB) (by kernel_rfl) (λj:Nat=>c2 xss xss.flatten.length (tot xss j) (jJ xss j) j) xss.length (s':=c2 xss xss.flatten.length xss.flatten.length xss.flatten xss.length) (λj hj=>?_) ?_
  ·exact key
  ·have k:=RL xss j xss.flatten.length (tot xss j) (jJ xss j)
   have t1:=Bj xss (j+1)
   have t2:=uo hj
   rw [aaa,wrap_i64 _ (by omega) (by omega),Bk hj, <-t2] at k
   refine Tr.post (Tr.cut (lB true true) 60 _ 1 (by omega) k ?_) (bE.same ?_ rfl)
   ·simp only [aC,aac,aab,true_and]
    exact ⟨⟨⟨by omega,ct (by omega) (by omega)⟩,by omega⟩,by omega,⟨⟨Ep _ _,by omega⟩,by omega⟩⟩
   ·show (c2 _ _ _ [] _).t=(c2 _ _ _ [] _).t
    rw [show ((j:Int)+1)=((j+1:Nat):Int) by omega]
  ·have k:=Mj xss xss.length xss.flatten.length (tot xss xss.length) (jJ xss xss.length)
   have e:jJ xss xss.length=xss.flatten:=by unfold jJ;rw [sj,Nat.sub_self,adA];simp
   rw [sj,e] at k
   rw [sj,e]
   exact Tr.post (Tr.cut (lB true false) 60 _ 1 (by omega) k (by simp [aa])) (bE.same rfl rfl)
 have key:ai prog 136 [.gf false xss] [] (.sl 0 0 0 1 xss.flatten.length xss.flatten.length false false) [.b [.ints .u8 xss.flatten.length xss.flatten]]:=by
  refine ai.mE (lB true true) 60 7 1 func136 (by simp) rfl (λs' x h=>?_) (s:=c2 xss xss.flatten.length xss.flatten.length xss.flatten xss.length) (p:=true) (by kernel_rfl) rfl rfl rfl
  refine aV.items (lB true true) 60 3 _ 0 (by simp) (Mh xss) rfl (by decide) ?_
  refine aV.item 3 (by decide) l1 ?_
  have hm:=RK xss xss.flatten.length xss.length
  rw [aaa] at hm
  refine aV.items (lB true true) 60 2 _ 1 (by simp) hm ?_ (by decide) ?_
  ·simp only [aC,aac,aab,true_and];omega
  refine aV.item 6 (by decide) (Tr.pre l2 (bE.same rfl rfl)) h
 exact key
theorem Yf {xss:List (List Int)} (h1:xss.flatten.length<=274877906944) (h2:xss.length<=274877906944):ai prog 136 [.gf false xss] [] (.ro true .u8 xss.flatten) []:=(OS h1 h2).frozen rfl
def Yg:List SV->Option (SV×List Blk×Bool)
 | [.gf false xss]=>some (.sl 0 0 0 1 xss.flatten.length xss.flatten.length false false,[.b [.ints .u8 xss.flatten.length xss.flatten]],decide (xss.flatten.length<=274877906944)&&decide (xss.length<=274877906944))
 |_=>none
def Yh:Entry prog:=.val 136 _ func136 (by decide) rfl true 1 Yg λvs v new e=>by
 unfold Yg at e
 split at e
 ·simp only [No,aae,aac,aab] at e
  obtain ⟨rfl,rfl,h1,h2⟩:=e
  exact OS h1 h2
 ·cases e
def coF:List SV->Option (SV×List Blk×Bool)
 | [.gf false xss]=>some (.ro true .u8 xss.flatten,[],decide (xss.flatten.length<=274877906944)&&decide (xss.length<=274877906944))
 |_=>none
def LK:Entry prog:=.val 136 _ func136 (by decide) rfl true 0 coF λvs v new e=>by
 unfold coF at e
 split at e
 ·simp only [No,aae,aac,aab] at e
  obtain ⟨rfl,rfl,h1,h2⟩:=e
  exact Yf h1 h2
 ·cases e
end Go.Proofs.YthlnlcijnoadcaaGreatDoor.Sh
end
section
namespace Go.Sy
open Go
variable {P:Program}
theorem ai.split {f:FuncId} {args:List SV} {h h1:List Blk} {v:SV} {k:IntKind} {xs:List Int} (g1:0<xs.length->ai P f (.ro false k xs::args) h v h1)
  (g2:xs=[]->ai P f (.nl (.slice none 0 0)::args) h v h1) (g3:xs=[]->∀a c,ai P f (.nl (.slice (some a) 0 c)::args) h v h1):ai P f (.ro false k xs::args) h v h1:=by
 by_cases hx:xs=[]
 ·intro B e w args' hB hl R
  obtain ⟨y,zs,h1,h2,rfl⟩:=hl
  rcases h1 with ⟨_,a,cap,rfl,ha⟩|⟨n,o,cap,c,t,fr,rfl,_⟩
  ·cases a with
   |none=>
    obtain rfl:=ha rfl
    exact g2 hx B e w _ hB ⟨.slice none 0 0,_,rfl,h2,rfl⟩ R
   |some a=>exact g3 hx a cap B e w _ hB ⟨_,_,rfl,h2,rfl⟩ R
  ·subst hx
   exact g3 rfl _ cap B e w _ hB ⟨_,_,rfl,h2,rfl⟩ R
 ·exact g1 (List.length_pos_iff.2 hx)
end Go.Sy
namespace Go.Proofs.YthlnlcijnoadcaaGreatDoor.Sh
open Go Go.Sy
theorem H8 {xs:List Int} (h:xs.length<=274877906944):ai prog 211 [.ro false .u8 xs] [] (.sl 0 0 0 1 xs.length xs.length false true) [.b [.ints .u8 xs.length xs]]:=by
 refine ai.split (λh0=>?_) (λhx=>?_) (λhx a c=>?_)
 ·have k:(aG prog (mk (P:=prog) [] []) 60 f211 [.ro false .u8 xs] []).map (λx=>x)=
    some (.sl 0 0 0 1 (0+xs.length) (0+xs.length) false true,[.b [.ints .u8 (0+xs.length) (List.replicate 0 0++xs)]],aa (aa true (decide (0<xs.length))) (aa true (decide (0+xs.length<=2^38)))):=by kernel_rfl
  rw [abC,Me h0,Me (show xs.length<=2^38 by omega)] at k
  obtain ⟨x,h2,h3⟩:=aag.1 k
  subst h3
  exact ai.bg pT func211 h2
 ·subst hx
  exact (aI pT 60 func211 (v:=.nl (.slice none 0 0)) (p:=true) (by kernel_rfl) rfl rfl).empty .u8 false true
 ·subst hx
  have k:aG prog (mk (P:=prog) [] []) 60 f211 [.nl (.slice (some a) 0 c)] []=some (.sl 0 0 0 1 0 0 false true,[.b [.ints .u8 0 []]],true):=by kernel_rfl
  exact ai.bg pT func211 k
def H9:List SV->Option (SV×List Blk×Bool)
 | [.ro false .u8 xs]=>some (.sl 0 0 0 1 xs.length xs.length false true,[.b [.ints .u8 xs.length xs]],decide (xs.length<=274877906944))
 |_=>none
def HI:Entry prog:=.val 211 _ func211 (by decide) rfl true 1 H9 λvs v new e=>by
 unfold H9 at e
 split at e
 ·simp only [No,aae,aab] at e
  obtain ⟨rfl,rfl,h⟩:=e
  exact H8 h
 ·cases e
def xH (n:Int) (i:Nat):Int:=u8.wrap (e6 .u64 (jS .u64 (W n) 3) (8*i))
def CF (n:Int):List Int:=[0,0,0,0,0,0,0,u8.wrap (e6 .u64 (W n) 61),xH n 7,xH n 6,xH n 5,xH n 4,xH n 3,xH n 2,xH n 1,xH n 0]
def El (n:Int):List Int:=[xH n 7,xH n 6,xH n 5,xH n 4,xH n 3,xH n 2,xH n 1,xH n 0]
theorem RM (n:Int):ai prog 251 [.int .i64 n,.int .i64 16] [] (.ro true .u8 (CF n)) []:=
 ai.frozen (N:=16) (ex:=true) (wh:=true) (ai.bg pT func251 (n:=200) (by kernel_rfl)) rfl
theorem Ml (n:Int):ai prog 251 [.int .i64 n,.int .i64 8] [] (.ro true .u8 (El n)) []:=
 ai.frozen (N:=8) (ex:=true) (wh:=true) (ai.bg pT func251 (n:=200) (by kernel_rfl)) rfl
def Yi:List SV->Option (SV×List Blk×Bool)
 | [.int .i64 n,.int .i64 m]=>bif m==16 then some (.ro true .u8 (CF n),[],true) else bif m==8 then some (.ro true .u8 (El n),[],true) else none
 |_=>none
def ad0:Entry prog:=.val 251 _ func251 (by decide) rfl false 0 Yi λvs v new e=>by
 unfold Yi at e
 split at e
 ·rename_i n m
  by_cases h1:m=16
  ·subst h1;cases e;exact RM n
  ·rw [beq_false_of_ne h1] at e
   by_cases h2:m=8
   ·subst h2;cases e;exact Ml n
   ·rw [beq_false_of_ne h2] at e;cases e
 ·cases e
end Go.Proofs.YthlnlcijnoadcaaGreatDoor.Sh
end
section
namespace Go.Proofs.YthlnlcijnoadcaaGreatDoor.Sh
open Go Go.Sy
def pB:Code:=aP f213
def OT (b:Bool):bO:=mk (P:=prog) [HI,ad0] [] λi=>if i=21 then some b else none
theorem lC (b:Bool):ak prog (OT b):=az _ aL.nil _ _
def pS (m:Nat) (l:List Int) (n pc sz:Int):St:=⟨slotsOf 30 [(1,.int .i64 n),(2,.int .i64 pc),(3,.int .i64 sz),(9,.sl 0 0 0 1 m m false true)],[.b [.ints .u8 m l]],true⟩
def LW (a b:Nat):Bool:=aa (aa (aa true (decide (a=b)&&(decide (b<=b)&&true))) (decide (a=b))) (decide (b+1<=2^38))
section
variable (m:Nat) (l xs:List Int) (n pc sz:Int)
theorem CG:(aE prog (OT true) 60 0 2 (atoms pB) ⟨aD f213.ntmps [.ro false .u8 xs,.int .i64 n,.int .i64 pc,.int .i64 sz],[],true⟩).bind (St.cut [1,2,3,9] 1)=
  some {pS (xs.length+1) (xs++[128]) n pc sz with ob:=aa (aa true (aa true (decide (xs.length<=274877906944)))) (LW xs.length xs.length)}:=by kernel_rfl
theorem RN:(exec prog (OT true) 60 0 (inner (inner (au 2 pB))) (pS m l n pc sz)).bind (λr=>(r.2.cut [1,2,3,9] 1).map λq=>(r.1,q))=
  some (.normal,{pS (m+1) (l++[0]) n pc sz with ob:=aa (aa (aa true (pc != 0)) ((m:Int).tmod pc != i64.wrap (pc-sz))) (LW l.length m)}):=by kernel_rfl
theorem RO:(exec prog (OT false) 60 0 (inner (inner (au 2 pB))) (pS m l n pc sz)).bind (λr=>(r.2.cut [1,2,3,9] 1).map λq=>(r.1,q))=
  some (.exit 0,{pS m l n pc sz with ob:=aa (aa true (pc != 0)) (!((m:Int).tmod pc != i64.wrap (pc-sz)))}):=by kernel_rfl
end
theorem fZ {a:Nat} (h:a<274877906944):LW a a=true:=by
 unfold LW
 rw [Me rfl,Me (aaf a),Me (show a+1<=2^38 by omega)]
 rfl
def c9 (len pc q:Nat):Nat:=(q+pc-(len+1)%pc)%pc
theorem pW {len pc q:Nat} (hq:q<pc):(len+1+c9 len pc q)%pc=q/\∀j,j<c9 len pc q->(len+1+j)%pc≠q:=by
 have hm:(len+1)%pc<pc:=Nat.mod_lt _ (by omega)
 unfold c9
 generalize hr:(len+1)%pc=r at*
 have key:∀j,(len+1+j)%pc=(r+j)%pc:=λj=>by rw [<-hr,Nat.mod_add_mod]
 by_cases h:r<=q
 ·have e:(q+pc-r)%pc=q-r:=by
   rw [show q+pc-r=(q-r)+pc by omega,Nat.add_mod_right,Nat.mod_eq_of_lt (by omega)]
  rw [e]
  refine ⟨by rw [key,show r+(q-r)=q by omega,Nat.mod_eq_of_lt hq],λj hj=>?_⟩
  rw [key,Nat.mod_eq_of_lt (by omega)];omega
 ·have e:(q+pc-r)%pc=q+pc-r:=Nat.mod_eq_of_lt (by omega)
  rw [e]
  refine ⟨by rw [key,show r+(q+pc-r)=q+pc by omega,Nat.add_mod_right,Nat.mod_eq_of_lt hq],λj hj=>?_⟩
  rw [key]
  by_cases h2:r+j<pc
  ·rw [Nat.mod_eq_of_lt h2];omega
  ·rw [show r+j=(r+j-pc)+pc by omega,Nat.add_mod_right,Nat.mod_eq_of_lt (by omega)];omega
def eE (xs:List Int) (pc q:Nat):List Int:=xs++[128]++List.replicate (c9 xs.length pc q) 0
theorem g7 (xs:List Int) (pc q:Nat):(eE xs pc q).length=xs.length+1+c9 xs.length pc q:=by simp [eE];omega
theorem CH {xs:List Int} (n:Int) {pc sz q:Nat} (hq:q+sz=pc) (hsz:0<sz) (hpc:pc<1000) (hx:xs.length<274877900000):
  Tr prog none 0 (au 2 pB) (pS (xs.length+1) (xs++[128]) n pc sz) .normal (pS (xs.length+1+c9 xs.length pc q) (eE xs pc q) n pc sz):=by
 obtain ⟨k1,k2⟩:=pW (len:=xs.length) (show q<pc by omega)
 have hK:c9 xs.length pc q<pc:=Nat.mod_lt _ (by omega)
 have hne:(((pc:Nat):Int) != 0)=true:=bne_iff_ne.2 (by omega)
 have hw:i64.wrap ((pc:Int)-(sz:Int))=((q:Nat):Int):=by rw [wrap_i64 _ (by omega) (by omega)];omega
 have hm:∀j:Nat,((xs.length+1+j:Nat):Int).tmod (pc:Int)=(((xs.length+1+j)%pc:Nat):Int):=λj=>by
  rw [Int.tmod_eq_emod_of_nonneg (by omega),Int.natCast_emod]
 have key:=Tr.loop (P:=prog) (ro:=none) (k:=0) 0 (c:=au 2 pB) (by kernel_rfl) (λj:Nat=>pS (xs.length+1+j) (xs++[128]++List.replicate j 0) n pc sz) (c9 xs.length pc q) (s':=pS (xs.length+1+c9 xs.length pc q) (eE xs pc q) n pc sz) (λj hj=>?_) ?_
 ·refine Tr.pre key (bE.same rfl ?_)
  show [_]=[_]
  simp
 ·have k:=RN (xs.length+1+j) (xs++[128]++List.replicate j 0) n pc sz
  have hl:(xs++[128]++List.replicate j 0).length=xs.length+1+j:=by simp;omega
  rw [hne,hm,hw,hl,fZ (by omega),bne_iff_ne.2 (show (((xs.length+1+j)%pc:Nat):Int)≠((q:Nat):Int) from λh=>k2 j hj (by omega))] at k
  refine Tr.post (Tr.cut (lC true) 60 _ 1 (by omega) k rfl) (bE.same rfl ?_)
  show [_]=[_]
  rw [List.replicate_succ', <-aaE];rfl
 ·have k:=RO (xs.length+1+c9 xs.length pc q) (eE xs pc q) n pc sz
  rw [hne,hm,hw,k1] at k
  exact Tr.post (Tr.cut (lC false) 60 _ 1 (by omega) k (by simp [aa])) (bE.same rfl rfl)
theorem Er {xs:List Int} (n:Int) (hx:xs.length<274877900000):ai prog 213 [.ro false .u8 xs,.int .i64 n,.int .i64 128,.int .i64 16] [] (.ro true .u8 (eE xs 128 112++CF n)) []:=by
 have hK:c9 xs.length 128 112<128:=Nat.mod_lt _ (by omega)
 have hl:=g7 xs 128 112
 refine ai.frozen (N:=xs.length+1+c9 xs.length 128 112+16) (ex:=false) (wh:=true) ?_ (by rw [aar,hl];rfl)
 refine ai.mE (lC true) 60 3 1 func213 (by simp) rfl (λs' x h=>?_) (s:=pS (xs.length+1+c9 xs.length 128 112) (eE xs 128 112) n 128 16)
  (p:=aa true (aa (aa (aa true (decide ((eE xs 128 112).length=xs.length+1+c9 xs.length 128 112)&&(decide (xs.length+1+c9 xs.length 128 112<=xs.length+1+c9 xs.length 128 112)&&true))) (decide ((eE xs 128 112).length=xs.length+1+c9 xs.length 128 112))) (decide (xs.length+1+c9 xs.length 128 112+16<=2^38)))) (by kernel_rfl) (by rw [hl];simp only [aC,aab,decide_true,Bool.and_self,true_and,aaf];omega) rfl rfl
 refine aV.items (lC true) 60 2 _ 1 (by simp) (CG xs n 128 16) (by rw [fZ (by omega),Me (by omega)];rfl) (by decide) ?_
 exact aV.item 2 (by decide) (Tr.pre (CH n (pc:=128) (sz:=16) (q:=112) rfl (by decide) (by decide) hx) (bE.same rfl rfl)) h
theorem Bl {xs:List Int} (n:Int) (hx:xs.length<274877900000):ai prog 213 [.ro false .u8 xs,.int .i64 n,.int .i64 64,.int .i64 8] [] (.ro true .u8 (eE xs 64 56++El n)) []:=by
 have hK:c9 xs.length 64 56<64:=Nat.mod_lt _ (by omega)
 have hl:=g7 xs 64 56
 refine ai.frozen (N:=xs.length+1+c9 xs.length 64 56+8) (ex:=false) (wh:=true) ?_ (by rw [aar,hl];rfl)
 refine ai.mE (lC true) 60 3 1 func213 (by simp) rfl (λs' x h=>?_) (s:=pS (xs.length+1+c9 xs.length 64 56) (eE xs 64 56) n 64 8)
  (p:=aa true (aa (aa (aa true (decide ((eE xs 64 56).length=xs.length+1+c9 xs.length 64 56)&&(decide (xs.length+1+c9 xs.length 64 56<=xs.length+1+c9 xs.length 64 56)&&true))) (decide ((eE xs 64 56).length=xs.length+1+c9 xs.length 64 56))) (decide (xs.length+1+c9 xs.length 64 56+8<=2^38)))) (by kernel_rfl) (by rw [hl];simp only [aC,aab,decide_true,Bool.and_self,true_and,aaf];omega) rfl rfl
 refine aV.items (lC true) 60 2 _ 1 (by simp) (CG xs n 64 8) (by rw [fZ (by omega),Me (by omega)];rfl) (by decide) ?_
 exact aV.item 2 (by decide) (Tr.pre (CH n (pc:=64) (sz:=8) (q:=56) rfl (by decide) (by decide) hx) (bE.same rfl rfl)) h
def Yj:List SV->Option (SV×List Blk×Bool)
 | [.ro false .u8 xs,.int .i64 n,.int .i64 pc,.int .i64 sz]=>bif pc==128&&sz==16 then some (.ro true .u8 (eE xs 128 112++CF n),[],decide (xs.length<274877900000)) else bif pc==64&&sz==8 then some (.ro true .u8 (eE xs 64 56++El n),[],decide (xs.length<274877900000)) else none
 |_=>none
def CC:Entry prog:=.val 213 _ func213 (by decide) rfl true 0 Yj λvs v new e=>by
 unfold Yj at e
 split at e
 ·rename_i xs n pc sz
  by_cases h1:(pc==128&&sz==16)=true
  ·rw [h1] at e
   simp only [aac,aaS] at h1
   obtain ⟨rfl,rfl⟩:=h1
   simp only [aeL,No,aae,aab] at e
   obtain ⟨rfl,rfl,h⟩:=e
   exact Er n h
  ·rw [Bool.not_eq_true] at h1
   rw [h1] at e
   by_cases h2:(pc==64&&sz==8)=true
   ·rw [h2] at e
    simp only [aac,aaS] at h2
    obtain ⟨rfl,rfl⟩:=h2
    simp only [aeL,cond_false,No,aae,aab] at e
    obtain ⟨rfl,rfl,h⟩:=e
    exact Bl n h
   ·rw [Bool.not_eq_true] at h2
    rw [h2] at e
    cases e
 ·cases e
end Go.Proofs.YthlnlcijnoadcaaGreatDoor.Sh
end
