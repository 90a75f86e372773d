/- This file proves that the program's short digest is the document's. Conditions: bytes; lengths that memory bears. -/
import Derived.Test.YthlnlcijnoadcaaGreatDoorFS2E
import Derived.Test.YthlnlcijnoadcaaGreatDoorFR3C
set_option linter.all false
namespace Go.Proofs.YthlnlcijnoadcaaGreatDoor.Q2
open Go Go.Sy Sh
open R3 (In32 V_in V_eq or32 shl32 turn32)
def InL (l:List Int):Prop:=∀x∈l,In32 x
theorem InL.getD {l:List Int} (h:InL l) (i:Nat):In32 (l.getD i 0):=by
 rw [List.getD_eq_getElem?_getD]
 cases e:l[i]? with
 |none=>exact ⟨by decide,by decide⟩
 |some x=>exact h x (List.mem_of_getElem? e)
theorem V_id {x:Int} (h:In32 x):V x=x:=by
 have:V x=x%4294967296:=V_eq x
 rw [this]
 exact Int.emod_eq_of_lt h.1 h.2
theorem W64_id {x:Int} (h:0≤x∧x<18446744073709551616):Sh.W x=x:=by
 unfold Sh.W
 rw [wrap_u64]
 exact Int.emod_eq_of_lt h.1 h.2
theorem rotN_eq {x:Int} (hx:In32 x) (a b:Int) (n m:Nat) (h:n+m=32) (e1:(andI .u64 (Sh.W a) 31).toNat=m) (e2:(Sh.W (32-andI .u64 (Sh.W a) 31)).toNat=n)
  (e3:b.toNat=n) (e4:(Sh.W (32-b)).toNat=m):S2.rotN x a=rotQ x b:=by
 unfold S2.rotN rotQ
 rw [e1,e2,e3,e4]
 refine (turn32 hx n m h).trans ?_
 rw [Int.add_comm]
theorem rotP_eq {x:Int} (hx:In32 x) (a:Int) (n m:Nat) (h:n+m=32) (e1:(andI .u64 (Sh.W (IntKind.i64.wrap (0-a))) 31).toNat=m) (e2:(Sh.W (32-andI .u64 (Sh.W (IntKind.i64.wrap (0-a))) 31)).toNat=n)
  (e3:a.toNat=n) (e4:(Sh.W (32-a)).toNat=m):S2.rotP x a=rotQ x a:=rotN_eq hx _ a n m h e1 e2 e3 e4
theorem tn_one {x:Int} (hx:In32 x):S2.tnP x 6 11 25=tnQ x 6 11 25:=by
 unfold S2.tnP tnQ
 rw [rotP_eq hx 6 6 26 rfl (by decide) (by decide) rfl (by decide),rotP_eq hx 11 11 21 rfl (by decide) (by decide) rfl (by decide),rotP_eq hx 25 25 7 rfl (by decide) (by decide) rfl (by decide)]
theorem tn_two {x:Int} (hx:In32 x):S2.tnP x 2 13 22=tnQ x 2 13 22:=by
 unfold S2.tnP tnQ
 rw [rotP_eq hx 2 2 30 rfl (by decide) (by decide) rfl (by decide),rotP_eq hx 13 13 19 rfl (by decide) (by decide) rfl (by decide),rotP_eq hx 22 22 10 rfl (by decide) (by decide) rfl (by decide)]
theorem nx_eq {x y:Int} (hx:In32 x) (hy:In32 y) (a b:Int):S2.nxW y x a b=nxQ y x a b:=by
 unfold S2.nxW nxQ
 rw [rotN_eq hy (-17) 17 17 15 rfl (by decide) (by decide) rfl (by decide),rotN_eq hy (-19) 19 19 13 rfl (by decide) (by decide) rfl (by decide),rotN_eq hx (-7) 7 7 25 rfl (by decide) (by decide) rfl (by decide),rotN_eq hx (-18) 18 18 14 rfl (by decide) (by decide) rfl (by decide)]
theorem not_eq {e:Int} (h:In32 e):xorI .u32 IntKind.u32.max e=V (4294967295-e):=by
 obtain ⟨n,rfl⟩:=Int.eq_ofNat_of_zero_le h.1
 have hn:n<2^32:=by have:=h.2;omega
 unfold xorI bitsI
 rw [show IntKind.u32.max=((2^32-1:Nat):Int) by decide]
 have e1:BitVec.ofInt 32 ((2^32-1:Nat):Int)=BitVec.allOnes 32:=by decide
 show IntKind.u32.wrap ((BitVec.ofInt 32 ((2^32-1:Nat):Int)^^^BitVec.ofInt 32 (n:Int)).toNat:Int)=_
 rw [e1,BitVec.allOnes_xor,BitVec.toNat_not,BitVec.ofInt_natCast,BitVec.toNat_ofNat,Nat.mod_eq_of_lt hn]
 unfold V
 congr 1
 omega
theorem ch_eq {e:Int} (h:In32 e) (f g:Int):S2.chW e f g=chQ e f g:=by unfold S2.chW chQ;rw [not_eq h]
theorem rnd_eq {s:List Int} (hs:InL s) (k w:Int):S2.rndW s k w=rndQ s k w:=by
 unfold S2.rndW rndQ S2.t1W S2.t2W t1Q t2Q
 rw [tn_one (hs.getD 4),tn_two (hs.getD 0),ch_eq (hs.getD 4)]
theorem rnd_in {s:List Int} (hs:InL s) (k w:Int):InL (rndQ s k w):=by
 intro x hx
 simp only [rndQ,List.mem_cons,List.not_mem_nil,or_false] at hx
 rcases hx with rfl|rfl|rfl|rfl|rfl|rfl|rfl|rfl<;>first|exact V_in _|exact hs.getD _
theorem rnds_eq {h:List Int} (hh:InL (lst 8 h)) (k w:List Int):∀j,lst 8 (rnQ h k w j)=S2.rnds (lst 8 h) k w j∧InL (S2.rnds (lst 8 h) k w j)
 |0=>⟨rfl,hh⟩
 |j+1=>by
  obtain ⟨h1,h2⟩:=rnds_eq hh k w j
  have e:lst 8 (rnQ h k w (j+1))=rndQ (lst 8 (rnQ h k w j)) (k.getD j 0) (w.getD j 0):=rfl
  rw [e,h1,S2.rnds,rnd_eq h2]
  exact ⟨rfl,rnd_in h2 _ _⟩
theorem nxJ_eq {w:List Int} {j:Nat} (hj:j<48):nxJ w (16+j)=nxQ (w.getD (14+j) 0) (w.getD (1+j) 0) (w.getD (9+j) 0) (w.getD j 0):=by
 unfold nxJ
 rw [wrap_i64 _ (by omega) (by omega),wrap_i64 _ (by omega) (by omega),wrap_i64 _ (by omega) (by omega),wrap_i64 _ (by omega) (by omega)]
 rw [show 0+((16:Int)+j-2).toNat=14+j by omega,show 0+((16:Int)+j-15).toNat=1+j by omega,show 0+((16:Int)+j-7).toNat=9+j by omega,show 0+((16:Int)+j-16).toNat=j by omega]
theorem getD_left {a b:List Int} {i:Nat} (h:i<a.length):(a++b).getD i 0=a.getD i 0:=by
 rw [List.getD_eq_getElem?_getD,List.getD_eq_getElem?_getD,List.getElem?_append_left h]
theorem sched_eq {w:List Int} (hw:w.length=16) (hi:InL w):∀j,j≤48→S2.sched (w++List.replicate 48 0) j=wG w j++List.replicate (48-j) 0∧InL (wG w j)
 |0,_=>⟨rfl,hi⟩
 |j+1,hj=>by
  obtain ⟨h1,h2⟩:=sched_eq hw hi j (by omega)
  have hl:(wG w j).length=16+j:=by rw [wG_len,hw]
  refine ⟨?_,?_⟩
  ·rw [S2.sched,h1,getD_left (by omega),getD_left (by omega),getD_left (by omega),getD_left (by omega),nx_eq (h2.getD _) (h2.getD _),wG,nxJ_eq (by omega)]
   rw [List.set_append_right _ _ (by omega),hl,show 16+j-(16+j)=0 by omega,show 48-j=(48-(j+1))+1 by omega,List.replicate_succ,List.set_cons_zero,List.append_assoc]
   rfl
  ·intro x hx
   rw [wG,List.mem_append,List.mem_singleton] at hx
   rcases hx with hx|rfl
   ·exact h2 x hx
   ·exact V_in _
def By (l:List Int):Prop:=∀x∈l,0≤x∧x<256
theorem By.getD {l:List Int} (h:By l) (i:Nat):0≤l.getD i 0∧l.getD i 0<256:=by
 rw [List.getD_eq_getElem?_getD]
 cases e:l[i]? with
 |none=>exact ⟨by decide,by decide⟩
 |some x=>exact h x (List.mem_of_getElem? e)
theorem piece_getD (p:List Int) (a:Nat) {i:Nat} (hi:i<64):((p.drop a).take 64).getD i 0=p.getD (a+i) 0:=by
 rw [List.getD_eq_getElem?_getD,List.getD_eq_getElem?_getD,List.getElem?_take_of_lt hi,List.getElem?_drop]
theorem wq_eq {p:List Int} (hp:By p) {a i:Nat} (ha:a<10000000000000) (hi:i<16):wq p (ix a i)=S2.wd ((p.drop a).take 64) i:=by
 rw [ix_eq ha hi]
 unfold wq S2.wd
 rw [wrap_i64 _ (by omega) (by omega),wrap_i64 _ (by omega) (by omega),wrap_i64 _ (by omega) (by omega),piece_getD p a (by omega),piece_getD p a (by omega),piece_getD p a (by omega),piece_getD p a (by omega)]
 rw [show ((a+4*i:Nat):Int).toNat=a+4*i by omega,show (((a+4*i:Nat):Int)+1).toNat=a+(4*i+1) by omega,show (((a+4*i:Nat):Int)+2).toNat=a+(4*i+2) by omega,show (((a+4*i:Nat):Int)+3).toNat=a+(4*i+3) by omega]
 have b0:=hp.getD (a+4*i)
 have b1:=hp.getD (a+(4*i+1))
 have b2:=hp.getD (a+(4*i+2))
 have b3:=hp.getD (a+(4*i+3))
 generalize p.getD (a+4*i) 0=p0 at*
 generalize p.getD (a+(4*i+1)) 0=p1 at*
 generalize p.getD (a+(4*i+2)) 0=p2 at*
 generalize p.getD (a+(4*i+3)) 0=p3 at*
 rw [shl32 _ _ (by decide),shl32 _ _ (by decide),shl32 _ _ (by decide)]
 simp only [S2.V,V,S2.wrap_u32]
 have e0:p0%4294967296*2^24%4294967296=16777216*p0:=by omega
 have e1:p1%4294967296*2^16%4294967296=65536*p1:=by omega
 have e2:p2%4294967296*2^8%4294967296=256*p2:=by omega
 have e3:p3%4294967296=p3:=by omega
 rw [e0,e1,e2,e3,or32 24 (16777216*p0) (65536*p1) (by omega) (by omega) (by omega) (by omega) (by omega) (by decide),or32 16 (16777216*p0+65536*p1) (256*p2) (by omega) (by omega) (by omega) (by omega) (by omega) (by decide),or32 8 (16777216*p0+65536*p1+256*p2) p3 (by omega) (by omega) (by omega) (by omega) (by omega) (by decide)]
 omega
theorem wq_in (p:List Int) (q:Int):In32 (wq p q):=V_in _
theorem wA_eq {p:List Int} (hp:By p) {a:Nat} (ha:a<10000000000000):∀n,n≤16→wA p a n=(List.range n).map (S2.wd ((p.drop a).take 64))
 |0,_=>rfl
 |n+1,hn=>by rw [wA,wA_eq hp ha n (by omega),List.range_succ,List.map_append,wq_eq hp ha (show n<16 by omega)];rfl
theorem wA_in (p:List Int) (a:Int):∀n,InL (wA p a n)
 |0=>fun x hx=>absurd hx (by simp [wA])
 |n+1=>by
  intro x hx
  rw [wA,List.mem_append,List.mem_singleton] at hx
  rcases hx with hx|rfl
  ·exact wA_in p a n x hx
  ·exact wq_in _ _
theorem lst_in {h:List Int} (hh:InL h) (n:Nat):InL (lst n h):=by
 intro x hx
 simp only [lst,List.mem_map] at hx
 obtain ⟨i,_,rfl⟩:=hx
 exact hh.getD i
theorem piece_eq {p:List Int} (hp:By p) (kk:List Int) {h:List Int} (hl:h.length=8) (hh:InL h) {a:Nat} (ha:a<10000000000000):S2.pieceW h ((p.drop a).take 64) kk=pieceQ p kk h a:=by
 have e:=wA_eq hp ha 16 (by omega)
 have e2:=(sched_eq (wA_len p a 16) (wA_in p a 16) 48 (by omega)).1
 rw [e] at e2
 have hq:=(rnds_eq (lst_in hh 8) kk (wG (wA p a 16) 48) 64).1
 unfold S2.pieceW pieceQ
 rw [Lock_eq,hq,lst_eq hl]
 unfold S2.w16
 rw [e2,e,show 48-48=0 from rfl,List.replicate_zero,List.append_nil]
theorem sum_in (s t:List Int):InL (S2.sumW s t):=by
 intro x hx
 simp only [S2.sumW,List.mem_map] at hx
 obtain ⟨i,_,rfl⟩:=hx
 exact V_in _
theorem sum_len (s t:List Int):(S2.sumW s t).length=8:=by simp [S2.sumW]
theorem stN_eq {p:List Int} (hp:By p) (kk:List Int) {h:List Int} (hl:h.length=8) (hh:InL h):∀j,j<10000000000→S2.stN p kk h j=hN p kk h j∧InL (hN p kk h j)∧(hN p kk h j).length=8
 |0,_=>⟨rfl,hh,hl⟩
 |j+1,hj=>by
  obtain ⟨h1,h2,h3⟩:=stN_eq hp kk hl hh j (by omega)
  rw [S2.stN,hN,h1,piece_eq hp kk h3 h2 (show 64*j<10000000000000 by omega)]
  exact ⟨rfl,sum_in _ _,sum_len _ _⟩
theorem dQ_eq {n:Nat} (hn:n<9223372036854775808):∀i,dQ n i=((n/32/256^i:Nat):Int)
 |0=>by
  rw [dQ,Int.tdiv_eq_ediv_of_nonneg (by omega),wrap_i64 _ (by omega) (by omega),Nat.pow_zero,Nat.div_one]
  omega
 |i+1=>by
  have hle:n/32/256^i≤n/32:=Nat.div_le_self _ _
  have e:n/32/256^(i+1)=n/32/256^i/256:=by rw [Nat.pow_succ, ←Nat.div_div_eq_div_mul]
  rw [dQ,dQ_eq hn i,e]
  generalize n/32/256^i=q at*
  rw [Int.tdiv_eq_ediv_of_nonneg (by omega),wrap_i64 _ (by omega) (by omega)]
  omega
theorem wrap_u8 (n:Int):IntKind.u8.wrap n=n%256:=by simp [IntKind.wrap,IntKind.signed,IntKind.bits]
theorem low_eq {n:Nat} (hn:n<1000000000000000000) (i:Nat):lowQ n i=((8*n/256^i%256:Nat):Int):=by
 cases i with
 |zero=>
  rw [lowQ,Int.tmod_eq_emod_of_nonneg (by omega),wrap_i64 _ (by omega) (by omega),wrap_u8,Nat.pow_zero,Nat.div_one]
  omega
 |succ i=>
  have:8*n/256^(i+1)=n/32/256^i:=by
   rw [Nat.pow_succ,Nat.mul_comm (256^i), ←Nat.div_div_eq_div_mul]
   congr 1
   omega
  rw [lowQ,dQ_eq (by omega),this]
  generalize n/32/256^i=q
  rw [Int.tmod_eq_emod_of_nonneg (by omega),wrap_u8]
  omega
theorem ln_eq {n:Nat} (hn:n<1000000000000000000) (i:Nat) (hi:i<8):lnB n i=((8*n/256^i%256:Nat):Int):=by
 unfold lnB
 rw [W64_id ⟨by omega,by omega⟩,Fe.shl64 _ _ (by decide),Fe.shr_eq _ _ _ (show 8*i≤64 by omega),wrap_u8]
 rw [Int.emod_eq_of_lt (a:=(n:Int)*2^3) (by omega) (by omega),show (n:Int)*2^3=((8*n:Nat):Int) by omega,Int.pow_mul,show ((2:Int)^8)=((256:Nat):Int) by decide]
 rw [←Int.natCast_pow, ←Int.natCast_ediv]
 generalize 8*n/256^i=q
 omega
theorem len8_eq {n:Nat} (hn:n<1000000000000000000):len8 n=endQ n 8:=by
 have hl:∀i,i<8→lowQ n i=lnB n i:=fun i hi=>by rw [low_eq hn,ln_eq hn i hi]
 show _=[lowQ n 7,lowQ n 6,lowQ n 5,lowQ n 4,lowQ n 3,lowQ n 2,lowQ n 1,lowQ n 0]
 rw [hl 7 (by decide),hl 6 (by decide),hl 5 (by decide),hl 4 (by decide),hl 3 (by decide),hl 2 (by decide),hl 1 (by decide),hl 0 (by decide)]
 rfl
theorem padL_by {xs:List Int} (h:By xs) (pc q:Nat):By (padL xs pc q):=by
 intro x hx
 simp only [padL,List.mem_append,List.mem_singleton,List.mem_replicate] at hx
 rcases hx with (hx|rfl)|⟨_,rfl⟩
 ·exact h x hx
 ·decide
 ·decide
theorem pad_eq {xs:List Int} (h:xs.length<1000000000000000000):S2.padT xs=padQ8 xs:=by unfold S2.padT S2.padE padQ8;rw [len8_eq h]
theorem pad_by {xs:List Int} (hn:xs.length<1000000000000000000) (h:By xs):By (padQ8 xs):=by
 intro x hx
 rw [padQ8,List.mem_append] at hx
 rcases hx with hx|hx
 ·exact padL_by h _ _ x hx
 ·simp only [endQ,List.mem_map] at hx
  obtain ⟨i,_,rfl⟩:=hx
  rw [low_eq hn];omega
theorem b32_in:InL S2.b32:=by
 intro x hx
 simp only [S2.b32,List.mem_map] at hx
 obtain ⟨i,_,rfl⟩:=hx
 exact V_in _
theorem shortW_eq {xs:List Int} (h:By xs) (hn:xs.length<274877900000):S2.shortW xs=shortQ xs:=by
 have hK:padK xs.length 64 56<64:=Nat.mod_lt _ (by omega)
 have hl:(padQ8 xs).length=xs.length+1+padK xs.length 64 56+8:=by unfold padQ8;rw [List.length_append,padL_len];rfl
 obtain ⟨h1,_,h3⟩:=stN_eq (pad_by (by omega) h) S2.k32 S2.b32_len b32_in ((padQ8 xs).length/64) (by omega)
 unfold S2.shortW shortQ
 rw [pad_eq (by omega),h1,Lock_eq,Lock_eq,lst_eq h3]
end Go.Proofs.YthlnlcijnoadcaaGreatDoor.Q2
