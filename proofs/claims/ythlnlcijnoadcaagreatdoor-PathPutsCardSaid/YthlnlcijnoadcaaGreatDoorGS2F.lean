/- This file proves that the program's short digest is the document's. Conditions: bytes; lengths that memory bears. -/
import Derived.Test.YthlnlcijnoadcaaGreatDoorGS2E
import Derived.Test.YthlnlcijnoadcaaGreatDoorGR3C
noncomputable section
open Go.IntKind (i64 u8 u64 u32)
set_option linter.all false
namespace Go.Proofs.YthlnlcijnoadcaaGreatDoor.Q2
open Go Go.Sy Sh
open R3 (oz Ei LF HC zu HD)
def zE (l:List Int):Prop:=∀x∈l,oz x
theorem zE.getD {l:List Int} (h:zE l) (i:Nat):oz (l.getD i 0):=by
 rw [aba]
 cases e:l[i]? with
 |none=>exact ⟨by decide,by decide⟩
 |some x=>exact h x (aaG e)
theorem ahE {x:Int} (h:oz x):V x=x:=by
 have:V x=x%4294967296:=LF x
 rw [this]
 exact Int.emod_eq_of_lt h.1 h.2
theorem Ry {x:Int} (h:0<=x/\x<18446744073709551616):Sh.W x=x:=by
 unfold Sh.W
 rw [wrap_u64]
 exact Int.emod_eq_of_lt h.1 h.2
theorem pY {x:Int} (hx:oz x) (a b:Int) (n m:Nat) (h:n+m=32) (e1:(hD .u64 (Sh.W a) 31).toNat=m) (e2:(Sh.W (32-hD .u64 (Sh.W a) 31)).toNat=n)
  (e3:b.toNat=n) (e4:(Sh.W (32-b)).toNat=m):S2.rR x a=um x b:=by
 unfold S2.rR um
 rw [e1,e2,e3,e4]
 refine (HD hx n m h).trans ?_
 rw [Int.add_comm]
theorem ni {x:Int} (hx:oz x) (a:Int) (n m:Nat) (h:n+m=32) (e1:(hD .u64 (Sh.W (i64.wrap (0-a))) 31).toNat=m) (e2:(Sh.W (32-hD .u64 (Sh.W (i64.wrap (0-a))) 31)).toNat=n)
  (e3:a.toNat=n) (e4:(Sh.W (32-a)).toNat=m):S2.zw x a=um x a:=pY hx _ a n m h e1 e2 e3 e4
theorem Rz {x:Int} (hx:oz x):S2.OI x 6 11 25=UW x 6 11 25:=by
 unfold S2.OI UW
 rw [ni hx 6 6 26 rfl (by decide) (by decide) rfl (by decide),ni hx 11 11 21 rfl (by decide) (by decide) rfl (by decide),ni hx 25 25 7 rfl (by decide) (by decide) rfl (by decide)]
theorem RA {x:Int} (hx:oz x):S2.OI x 2 13 22=UW x 2 13 22:=by
 unfold S2.OI UW
 rw [ni hx 2 2 30 rfl (by decide) (by decide) rfl (by decide),ni hx 13 13 19 rfl (by decide) (by decide) rfl (by decide),ni hx 22 22 10 rfl (by decide) (by decide) rfl (by decide)]
theorem X9 {x y:Int} (hx:oz x) (hy:oz y) (a b:Int):S2.XX y x a b=nxQ y x a b:=by
 unfold S2.XX nxQ
 rw [pY hy (-17) 17 17 15 rfl (by decide) (by decide) rfl (by decide),pY hy (-19) 19 19 13 rfl (by decide) (by decide) rfl (by decide),pY hx (-7) 7 7 25 rfl (by decide) (by decide) rfl (by decide),pY hx (-18) 18 18 14 rfl (by decide) (by decide) rfl (by decide)]
theorem not_eq {e:Int} (h:oz e):eZ .u32 IntKind.u32.max e=V (4294967295-e):=by
 obtain ⟨n,rfl⟩:=aaB h.1
 have hn:n<2^32:=by have:=h.2;omega
 unfold eZ sG
 rw [show IntKind.u32.max=((2^32-1:Nat):Int) by decide]
 have e1:BitVec.ofInt 32 ((2^32-1:Nat):Int)=BitVec.allOnes 32:=by decide
 show IntKind.u32.wrap ((BitVec.ofInt 32 ((2^32-1:Nat):Int)^^^BitVec.ofInt 32 (n:Int)).toNat:Int)=_
 rw [e1,BitVec.allOnes_xor,BitVec.toNat_not,BitVec.ofInt_natCast,BitVec.toNat_ofNat,Nat.mod_eq_of_lt hn]
 unfold V
 congr 1
 omega
theorem Ya {e:Int} (h:oz e) (f g:Int):S2.chW e f g=chQ e f g:=by unfold S2.chW chQ;rw [not_eq h]
theorem RB {s:List Int} (hs:zE s) (k w:Int):S2.Ek s k w=Bg s k w:=by
 unfold S2.Ek Bg S2.t1W S2.t2W t1Q t2Q
 rw [Rz (hs.getD 4),RA (hs.getD 0),Ya (hs.getD 4)]
theorem RC {s:List Int} (hs:zE s) (k w:Int):zE (Bg s k w):=by
 intro x hx
 simp only [Bg,ad2,List.not_mem_nil,or_false] at hx
 rcases hx with rfl|rfl|rfl|rfl|rfl|rfl|rfl|rfl<;>first|exact Ei _|exact hs.getD _
theorem CE {h:List Int} (hh:zE (cG 8 h)) (k w:List Int):∀j,cG 8 (E3 h k w j)=S2.pV (cG 8 h) k w j/\zE (S2.pV (cG 8 h) k w j)
 |0=>⟨rfl,hh⟩
 |j+1=>by
  obtain ⟨h1,h2⟩:=CE hh k w j
  have e:cG 8 (E3 h k w (j+1))=Bg (cG 8 (E3 h k w j)) (k.getD j 0) (w.getD j 0):=rfl
  rw [e,h1,S2.pV,RB h2]
  exact ⟨rfl,RC h2 _ _⟩
theorem RD {w:List Int} {j:Nat} (hj:j<48):nxJ w (16+j)=nxQ (w.getD (14+j) 0) (w.getD (1+j) 0) (w.getD (9+j) 0) (w.getD j 0):=by
 unfold nxJ
 rw [wrap_i64 _ (by omega) (by omega),wrap_i64 _ (by omega) (by omega),wrap_i64 _ (by omega) (by omega),wrap_i64 _ (by omega) (by omega)]
 rw [show 0+((16:Int)+j-2).toNat=14+j by omega,show 0+((16:Int)+j-15).toNat=1+j by omega,show 0+((16:Int)+j-7).toNat=9+j by omega,show 0+((16:Int)+j-16).toNat=j by omega]
theorem nj {a b:List Int} {i:Nat} (h:i<a.length):(a++b).getD i 0=a.getD i 0:=by
 rw [aba,aba,aaR h]
theorem zF {w:List Int} (hw:w.length=16) (hi:zE w):∀j,j<=48->S2.sched (w++List.replicate 48 0) j=wG w j++List.replicate (48-j) 0/\zE (wG w j)
 |0,_=>⟨rfl,hi⟩
 |j+1,hj=>by
  obtain ⟨h1,h2⟩:=zF hw hi j (by omega)
  have hl:(wG w j).length=16+j:=by rw [Bh,hw]
  refine ⟨?_,?_⟩
  ·rw [S2.sched,h1,nj (by omega),nj (by omega),nj (by omega),nj (by omega),X9 (h2.getD _) (h2.getD _),wG,RD (by omega)]
   rw [List.set_append_right _ _ (by omega),hl,show 16+j-(16+j)=0 by omega,show 48-j=(48-(j+1))+1 by omega,List.replicate_succ,List.set_cons_zero,aaE]
   rfl
  ·intro x hx
   rw [wG,List.mem_append,List.mem_singleton] at hx
   rcases hx with hx|rfl
   ·exact h2 x hx
   ·exact Ei _
def By (l:List Int):Prop:=∀x∈l,0<=x/\x<256
theorem By.getD {l:List Int} (h:By l) (i:Nat):0<=l.getD i 0/\l.getD i 0<256:=by
 rw [aba]
 cases e:l[i]? with
 |none=>exact ⟨by decide,by decide⟩
 |some x=>exact h x (aaG e)
theorem lA (p:List Int) (a:Nat) {i:Nat} (hi:i<64):((p.drop a).take 64).getD i 0=p.getD (a+i) 0:=by
 rw [aba,aba,aa9 hi,aaQ]
theorem Yb {p:List Int} (hp:By p) {a i:Nat} (ha:a<10000000000000) (hi:i<16):wq p (ix a i)=S2.wd ((p.drop a).take 64) i:=by
 rw [OM ha hi]
 unfold wq S2.wd
 rw [wrap_i64 _ (by omega) (by omega),wrap_i64 _ (by omega) (by omega),wrap_i64 _ (by omega) (by omega),lA p a (by omega),lA p a (by omega),lA p a (by omega),lA p a (by omega)]
 rw [show ((a+4*i:Nat):Int).toNat=a+4*i by omega,show (((a+4*i:Nat):Int)+1).toNat=a+(4*i+1) by omega,show (((a+4*i:Nat):Int)+2).toNat=a+(4*i+2) by omega,show (((a+4*i:Nat):Int)+3).toNat=a+(4*i+3) by omega]
 have b0:=hp.getD (a+4*i)
 have b1:=hp.getD (a+(4*i+1))
 have b2:=hp.getD (a+(4*i+2))
 have b3:=hp.getD (a+(4*i+3))
 generalize p.getD (a+4*i) 0=p0 at*
 generalize p.getD (a+(4*i+1)) 0=p1 at*
 generalize p.getD (a+(4*i+2)) 0=p2 at*
 generalize p.getD (a+(4*i+3)) 0=p3 at*
 rw [zu _ _ (by decide),zu _ _ (by decide),zu _ _ (by decide)]
 simp only [S2.V,V,S2.wrap_u32]
 have e0:p0%4294967296*2^24%4294967296=16777216*p0:=by omega
 have e1:p1%4294967296*2^16%4294967296=65536*p1:=by omega
 have e2:p2%4294967296*2^8%4294967296=256*p2:=by omega
 have e3:p3%4294967296=p3:=by omega
 rw [e0,e1,e2,e3,HC 24 (16777216*p0) (65536*p1) (by omega) (by omega) (by omega) (by omega) (by omega) (by decide),HC 16 (16777216*p0+65536*p1) (256*p2) (by omega) (by omega) (by omega) (by omega) (by omega) (by decide),HC 8 (16777216*p0+65536*p1+256*p2) p3 (by omega) (by omega) (by omega) (by omega) (by omega) (by decide)]
 omega
theorem Yc (p:List Int) (q:Int):oz (wq p q):=Ei _
theorem ON {p:List Int} (hp:By p) {a:Nat} (ha:a<10000000000000):∀n,n<=16->wA p a n=(List.range n).map (S2.wd ((p.drop a).take 64))
 |0,_=>rfl
 |n+1,hn=>by rw [wA,ON hp ha n (by omega),List.range_succ,List.map_append,Yb hp ha (show n<16 by omega)];rfl
theorem OO (p:List Int) (a:Int):∀n,zE (wA p a n)
 |0=>λx hx=>absurd hx (by simp [wA])
 |n+1=>by
  intro x hx
  rw [wA,List.mem_append,List.mem_singleton] at hx
  rcases hx with hx|rfl
  ·exact OO p a n x hx
  ·exact Yc _ _
theorem RE {h:List Int} (hh:zE h) (n:Nat):zE (cG n h):=by
 intro x hx
 simp only [cG,List.mem_map] at hx
 obtain ⟨i,_,rfl⟩:=hx
 exact hh.getD i
theorem HY {p:List Int} (hp:By p) (kk:List Int) {h:List Int} (hl:h.length=8) (hh:zE h) {a:Nat} (ha:a<10000000000000):S2.gG h ((p.drop a).take 64) kk=oA p kk h a:=by
 have e:=ON hp ha 16 (by omega)
 have e2:=(zF (xG p a 16) (OO p a 16) 48 (by omega)).1
 rw [e] at e2
 have hq:=(CE (RE hh 8) kk (wG (wA p a 16) 48) 64).1
 unfold S2.gG oA
 rw [fh,hq,bN hl]
 unfold S2.Ej
 rw [e2,e,show 48-48=0 from rfl,List.replicate_zero,aaz]
theorem RF (s t:List Int):zE (S2.zx s t):=by
 intro x hx
 simp only [S2.zx,List.mem_map] at hx
 obtain ⟨i,_,rfl⟩:=hx
 exact Ei _
theorem Mc (s t:List Int):(S2.zx s t).length=8:=by simp [S2.zx]
theorem HZ {p:List Int} (hp:By p) (kk:List Int) {h:List Int} (hl:h.length=8) (hh:zE h):∀j,j<10000000000->S2.jq p kk h j=hN p kk h j/\zE (hN p kk h j)/\(hN p kk h j).length=8
 |0,_=>⟨rfl,hh,hl⟩
 |j+1,hj=>by
  obtain ⟨h1,h2,h3⟩:=HZ hp kk hl hh j (by omega)
  rw [S2.jq,hN,h1,HY hp kk h3 h2 (show 64*j<10000000000000 by omega)]
  exact ⟨rfl,RF _ _,Mc _ _⟩
theorem OP {n:Nat} (hn:n<9223372036854775808):∀i,dQ n i=((n/32/256^i:Nat):Int)
 |0=>by
  rw [dQ,Int.tdiv_eq_ediv_of_nonneg (by omega),wrap_i64 _ (by omega) (by omega),Nat.pow_zero,Nat.div_one]
  omega
 |i+1=>by
  have hle:n/32/256^i<=n/32:=Nat.div_le_self _ _
  have e:n/32/256^(i+1)=n/32/256^i/256:=by rw [Nat.pow_succ, <-Nat.div_div_eq_div_mul]
  rw [dQ,OP hn i,e]
  generalize n/32/256^i=q at*
  rw [Int.tdiv_eq_ediv_of_nonneg (by omega),wrap_i64 _ (by omega) (by omega)]
  omega
theorem wrap_u8 (n:Int):IntKind.u8.wrap n=n%256:=by simp [IntKind.wrap,IntKind.signed,IntKind.bits]
theorem H6 {n:Nat} (hn:n<1000000000000000000) (i:Nat):mM n i=((8*n/256^i%256:Nat):Int):=by
 cases i with
 |zero=>
  rw [mM,Int.tmod_eq_emod_of_nonneg (by omega),wrap_i64 _ (by omega) (by omega),wrap_u8,Nat.pow_zero,Nat.div_one]
  omega
 |succ i=>
  have:8*n/256^(i+1)=n/32/256^i:=by
   rw [Nat.pow_succ,Nat.mul_comm (256^i), <-Nat.div_div_eq_div_mul]
   congr 1
   omega
  rw [mM,OP (by omega),this]
  generalize n/32/256^i=q
  rw [Int.tmod_eq_emod_of_nonneg (by omega),wrap_u8]
  omega
theorem Yd {n:Nat} (hn:n<1000000000000000000) (i:Nat) (hi:i<8):xH n i=((8*n/256^i%256:Nat):Int):=by
 unfold xH
 rw [Ry ⟨by omega,by omega⟩,Fe.XM _ _ (by decide),Fe.Hw _ _ _ (show 8*i<=64 by omega),wrap_u8]
 rw [Int.emod_eq_of_lt (a:=(n:Int)*2^3) (by omega) (by omega),show (n:Int)*2^3=((8*n:Nat):Int) by omega,Int.pow_mul,show ((2:Int)^8)=((256:Nat):Int) by decide]
 rw [<-Int.natCast_pow, <-Int.natCast_ediv]
 generalize 8*n/256^i=q
 omega
theorem Md {n:Nat} (hn:n<1000000000000000000):El n=En n 8:=by
 have hl:∀i,i<8->mM n i=xH n i:=λi hi=>by rw [H6 hn,Yd hn i hi]
 show _=[mM n 7,mM n 6,mM n 5,mM n 4,mM n 3,mM n 2,mM n 1,mM n 0]
 rw [hl 7 (by decide),hl 6 (by decide),hl 5 (by decide),hl 4 (by decide),hl 3 (by decide),hl 2 (by decide),hl 1 (by decide),hl 0 (by decide)]
 rfl
theorem Mf {xs:List Int} (h:By xs) (pc q:Nat):By (eE xs pc q):=by
 intro x hx
 simp only [eE,List.mem_append,List.mem_singleton,List.mem_replicate] at hx
 rcases hx with (hx|rfl)|⟨_,rfl⟩
 ·exact h x hx
 ·decide
 ·decide
theorem RG {xs:List Int} (h:xs.length<1000000000000000000):S2.pX xs=fJ xs:=by unfold S2.pX S2.mL fJ;rw [Md h]
theorem RH {xs:List Int} (hn:xs.length<1000000000000000000) (h:By xs):By (fJ xs):=by
 intro x hx
 rw [fJ,List.mem_append] at hx
 rcases hx with hx|hx
 ·exact Mf h _ _ x hx
 ·simp only [En,List.mem_map] at hx
  obtain ⟨i,_,rfl⟩:=hx
  rw [H6 hn];omega
theorem RI:zE S2.si:=by
 intro x hx
 simp only [S2.si,List.mem_map] at hx
 obtain ⟨i,_,rfl⟩:=hx
 exact Ei _
theorem iN {xs:List Int} (h:By xs) (hn:xs.length<274877900000):S2.dB xs=bD xs:=by
 have hK:c9 xs.length 64 56<64:=Nat.mod_lt _ (by omega)
 have hl:(fJ xs).length=xs.length+1+c9 xs.length 64 56+8:=by unfold fJ;rw [aar,g7];rfl
 obtain ⟨h1,_,h3⟩:=HZ (RH (by omega) h) S2.lT S2.xC RI ((fJ xs).length/64) (by omega)
 unfold S2.dB bD
 rw [RG (by omega),h1,fh,fh,bN h3]
end Go.Proofs.YthlnlcijnoadcaaGreatDoor.Q2
