/- This file holds the texts TsA, TsB, a section each. No conditions beyond those in the theorems. -/
import Derived.Test.YthlnlcijnoadcaaGreatDoorGTrZ
noncomputable section
open Go.Proofs.Tryz
open Go.IntKind (i64 u8 u64 u32)
set_option linter.all false
set_option maxRecDepth 100000
section
namespace Go.Proofs.YthlnlcijnoadcaaGreatDoor.Tr
open Go Go.Sy
def SR:Option (SV×List Blk×Bool)->Option (Int×Bool)
 |some (.int .i64 a,[],p)=>some (a,p)
 |_=>none
theorem M5 {r:Option (SV×List Blk×Bool)} {a:Int} {p:Bool} (h:SR r=some (a,p)):r=some (.int .i64 a,[],p):=by
 unfold SR at h
 split at h
 ·simp only [No,aae] at h
  obtain ⟨rfl,rfl⟩:=h
  rfl
 ·cases h
def I9:Option (SV×List Blk×Bool)->Option (Int×Int×Bool)
 |some (.bC [.int .i64 a,.int .i64 b],[],p)=>some (a,b,p)
 |_=>none
theorem Ja {r:Option (SV×List Blk×Bool)} {a b:Int} {p:Bool} (h:I9 r=some (a,b,p)):r=some (.bC [.int .i64 a,.int .i64 b],[],p):=by
 unfold I9 at h
 split at h
 ·simp only [No,aae] at h
  obtain ⟨rfl,rfl,rfl⟩:=h
  rfl
 ·cases h
theorem zR:((List.range 72).all λN=>decide (SR (aG prog (mk (P:=prog) [] []) 60 f44 [.int .i64 ((N:Nat):Int)] [])=some (aO ((N:Nat):Int),true)))=true:=by kernel_rfl
theorem Bw {N:Nat} (h:N<72):ai prog 44 [.int .i64 ((N:Nat):Int)] [] (.int .i64 (aO ((N:Nat):Int))) []:=
 ai.bg gB func44 (M5 (abB (aah.1 zR N (aan.2 h))))
def O9:List (FuncId×Func):=[(84,f84)]
theorem Jb:aL prog O9:=aL.cons func84 (by decide) aL.nil
def rlC:bO:=mk (P:=prog) [] O9 λ_=>none
theorem SS:ak prog rlC:=az _ Jb _ _
theorem vn:((List.range 64).all λx=>decide (I9 (aG prog rlC 60 f41 [.int .i64 ((x:Nat):Int)] [])=some (aN ((x:Nat):Int),aH ((x:Nat):Int),true)))=true:=by kernel_rfl
theorem xR {x:Nat} (h:x<64):ai prog 41 [.int .i64 ((x:Nat):Int)] [] (.bC [.int .i64 (aN ((x:Nat):Int)),.int .i64 (aH ((x:Nat):Int))]) []:=
 ai.bg SS func41 (Ja (abB (aah.1 vn x (aan.2 h))))
end Go.Proofs.YthlnlcijnoadcaaGreatDoor.Tr
end
section
namespace Go.Proofs.YthlnlcijnoadcaaGreatDoor.Tr
open Go Go.Sy
def mP (n:Int):Bool:=sizes.any λm=>decide (n=m)
def SU:Entry prog:=.val 132 _ func132 (by decide) rfl false 0 (λvs=>match vs with
 | [.int .i64 n]=>some (.bool true,[],mP n)
 |_=>none) λvs v new e=>by
 split at e
 ·simp only [No,aae] at e
  obtain ⟨rfl,rfl,h1⟩:=e
  obtain ⟨m,hm,q⟩:=aaT.1 h1
  obtain rfl:=abB q
  simp only [sizes,ad2,List.not_mem_nil,or_false] at hm
  rcases hm with rfl|rfl|rfl|rfl|rfl|rfl<;>exact ai.bg gB func132 (n:=60) (by kernel_rfl)
 ·cases e
def sdC (l:List (Nat×Bool)):bO:=mk (P:=prog) [SU] [] (uT l)
theorem Bx (l:List (Nat×Bool)):ak prog (sdC l):=az _ aL.nil _ _
theorem SW (x n:Int):(aG prog (sdC [(9,false)]) 60 f85 [.int .i64 x,.int .i64 n] []).map (λx=>(x.1,x.2.2))=some (.bool false,aa (aa true (aa true (mP n))) !decide (x>=0)):=by kernel_rfl
theorem SX (x n:Int):(aG prog (sdC [(9,true),(16,false)]) 60 f85 [.int .i64 x,.int .i64 n] []).map (λx=>(x.1,x.2.2))=some (.bool false,aa (aa (aa true (aa true (mP n))) (decide (x>=0))) !decide (x<=i64.wrap (i64.wrap (2*n)-2))):=by kernel_rfl
theorem aex (x n:Int):(aG prog (sdC [(9,true),(16,true)]) 60 f85 [.int .i64 x,.int .i64 n] []).map (λx=>(x.1,x.2.2))=some (.bool true,aa (aa (aa true (aa true (mP n))) (decide (x>=0))) (decide (x<=i64.wrap (i64.wrap (2*n)-2)))):=by kernel_rfl
theorem p4 {x:Int} {n:Nat} (hn:n∈sizes):aQ x n=(decide (x>=0)&&decide (x<=2*(n:Int)-2)):=by
 cases h:(decide (x>=0)&&decide (x<=2*(n:Int)-2)) with
 |true=>
  simp only [aac,aab] at h
  exact aaT.2 ⟨n,hn,by simp only [aac,aab];exact ⟨⟨trivial,h.1⟩,h.2⟩⟩
 |false=>
  cases g:aQ x n with
  |false=>rfl
  |true=>
   obtain ⟨m,_,y,h1,rfl,h2⟩:=eR g
   rw [Bool.and_eq_false_iff,ac7,ac7] at h
   omega
theorem Jc {x:Int} {n:Nat} (hn:n∈sizes):ai prog 85 [.int .i64 x,.int .i64 ((n:Nat):Int)] [] (.bool (aQ x n)) []:=by
 rw [p4 hn]
 have hs:=bu hn
 have hz:mP (n:Int)=true:=aaT.2 ⟨n,hn,Me rfl⟩
 have hw:i64.wrap (i64.wrap (2*(n:Int))-2)=2*(n:Int)-2:=by
  rw [show i64.wrap (2*(n:Int))=2*(n:Int) from cg (by omega) (by omega)]
  exact cg (by omega) (by omega)
 have e2:=SX x n
 have e3:=aex x n
 rw [hw] at e2 e3
 cases h1:decide (x>=0) with
 |false=>exact aI (Bx _) 60 func85 (SW x n) (by rw [h1,hz];rfl) rfl
 |true=>
  cases h2:decide (x<=2*(n:Int)-2) with
  |false=>exact aI (Bx _) 60 func85 e2 (by rw [h1,h2,hz];rfl) rfl
  |true=>exact aI (Bx _) 60 func85 e3 (by rw [h1,h2,hz];rfl) rfl
def Jd (b:Bool):Entry prog:=.val 85 _ func85 (by decide) rfl false 0 (λvs=>match vs with
 | [.int .i64 x,.int .i64 n]=>some (.bool b,[],mP n&&(aQ x n==b))
 |_=>none) λvs v new e=>by
 split at e
 ·simp only [No,aae,aac,aaS] at e
  obtain ⟨rfl,rfl,h1,h3⟩:=e
  obtain ⟨m,hm,q⟩:=aaT.1 h1
  obtain rfl:=abB q
  rw [<-h3]
  exact Jc hm
 ·cases e
def jh:Entry prog:=.val 41 _ func41 (by decide) rfl false 0 (λvs=>match vs with
 | [.int .i64 x]=>some (.bC [.int .i64 (aN x),.int .i64 (aH x)],[],decide (0<=x)&&decide (x<64))
 |_=>none) λvs v new e=>by
 split at e
 ·simp only [No,aae,aac,aab] at e
  obtain ⟨rfl,rfl,h1,h2⟩:=e
  obtain ⟨y,rfl⟩:=aaB h1
  exact xR (by omega)
 ·cases e
def Je (l:List (Nat×Bool)):bO:=mk (P:=prog) [Jd true,jh] [] (uT l)
theorem qJ (l:List (Nat×Bool)):ak prog (Je l):=az _ aL.nil _ _
def J4:Code:=aP f113
def EI (x n p:Int):St:=⟨slotsOf 33 [(0,.int .i64 x),(1,.int .i64 n),(5,.int .i64 p)],[],true⟩
theorem M6 (x n:Int):aA (ah [0,1,5] 0 ((aE prog (Je []) 60 0 4 (atoms J4) ⟨aD f113.ntmps [.int .i64 x,.int .i64 n],[],true⟩).map λs=>(Exit.normal,s)))=some (.normal,(EI x n 0).t,[]):=by kernel_rfl
theorem Jf (x n:Int):aZ (ah [0,1,5] 0 ((aE prog (Je []) 60 0 4 (atoms J4) ⟨aD f113.ntmps [.int .i64 x,.int .i64 n],[],true⟩).map λs=>(Exit.normal,s)))=(aa true (aa true (mP n&&aQ x n==true))):=by kernel_rfl
theorem YV (x n p:Int):aA (ah [0,1,5] 0 (exec prog (Je [(16,true),(26,false),(30,false)]) 60 0 (inner (inner (au 4 J4))) (EI x n p)))=some (.normal,(EI x n (i64.wrap (p+1))).t,[]):=by kernel_rfl
theorem SY (x n p:Int):aZ (ah [0,1,5] 0 (exec prog (Je [(16,true),(26,false),(30,false)]) 60 0 (inner (inner (au 4 J4))) (EI x n p)))=(aa (aa (aa (aa true (decide (p<=i64.wrap (i64.wrap (2*n)-2)))) (aa true (decide (0<=p)&&decide (p<64)))) !aN p==x) !aH p==x):=by kernel_rfl
theorem aey (x n p:Int):aA (ah [4] 0 (exec prog (Je [(16,true),(26,true)]) 60 0 (inner (inner (au 4 J4))) (EI x n p)))=some (.ret,(iS 33 4 p).t,[]):=by kernel_rfl
theorem YW (x n p:Int):aZ (ah [4] 0 (exec prog (Je [(16,true),(26,true)]) 60 0 (inner (inner (au 4 J4))) (EI x n p)))=(aa (aa (aa true (decide (p<=i64.wrap (i64.wrap (2*n)-2)))) (aa true (decide (0<=p)&&decide (p<64)))) (aN p==x)):=by kernel_rfl
theorem aez (x n p:Int):aA (ah [4] 0 (exec prog (Je [(16,true),(26,false),(30,true)]) 60 0 (inner (inner (au 4 J4))) (EI x n p)))=some (.ret,(iS 33 4 p).t,[]):=by kernel_rfl
theorem YX (x n p:Int):aZ (ah [4] 0 (exec prog (Je [(16,true),(26,false),(30,true)]) 60 0 (inner (inner (au 4 J4))) (EI x n p)))=(aa (aa (aa (aa true (decide (p<=i64.wrap (i64.wrap (2*n)-2)))) (aa true (decide (0<=p)&&decide (p<64)))) !aN p==x) (aH p==x)):=by kernel_rfl
theorem SZ (x n p:Int):aA (ah [] 0 (exec prog (Je [(16,false)]) 60 0 (inner (inner (au 4 J4))) (EI x n p)))=some (.exit 0,slotsOf 33 [],[]):=by kernel_rfl
theorem M7 (x n p:Int):aZ (ah [] 0 (exec prog (Je [(16,false)]) 60 0 (inner (inner (au 4 J4))) (EI x n p)))=(aa true !decide (p<=i64.wrap (i64.wrap (2*n)-2))):=by kernel_rfl
theorem M8:(sizes.all λn=>(List.range (2*n-1)).all λx=>decide (bP (λp=>!(aN ((p:Nat):Int)==((x:Nat):Int))&&!(aH ((p:Nat):Int)==((x:Nat):Int))) (2*n-1) (λp=>((p:Nat):Int)) (-1)=eD ((x:Nat):Int) n))=true:=by decide+kernel
theorem Bz {x:Int} {n:Nat} (hx:aQ x n=true):ai prog 113 [.int .i64 x,.int .i64 ((n:Nat):Int)] [] (.int .i64 (eD x n)) []:=by
 obtain ⟨m,hm,y,h1,rfl,h2⟩:=eR hx
 obtain rfl:n=m:=by omega
 have hs:=bu hm
 have hz:mP (n:Int)=true:=aaT.2 ⟨n,hm,Me rfl⟩
 have hw:i64.wrap (i64.wrap (2*(n:Int))-2)=2*(n:Int)-2:=by
  rw [show i64.wrap (2*(n:Int))=2*(n:Int) from cg (by omega) (by omega)]
  exact cg (by omega) (by omega)
 have hv:=abB (aah.1 (aah.1 M8 n hm) y (aan.2 h2))
 rw [<-hv]
 have key:=ai.scan (P:=prog) (args:=[.int .i64 ((y:Nat):Int),.int .i64 ((n:Nat):Int)]) (h:=[]) (h':=[]) func113 rfl 4 0 (λp:Nat=>EI y n ((p:Nat):Int)) (λp=>!(aN ((p:Nat):Int)==((y:Nat):Int))&&!(aH ((p:Nat):Int)==((y:Nat):Int))) (2*n-1)
  (λx s' g=>aV.bk (qJ []) 60 4 _ 0 (by simp) (s1:=EI y n ((0:Nat):Int)) _ (M6 y n) (Jf y n) (by rw [hz,hx];rfl) (by decide) rfl g) (by decide) (by kernel_rfl)
  (λp hp hb _=>?_) (λi=>iS 33 4 ((i:Nat):Int)) (λi=>[.int .i64 ((i:Nat):Int)]) (λp hp hb _=>⟨?_,rfl,rfl⟩) (sE:=⟨slotsOf 33 [],[],true⟩) (uM:=iS 33 4 (-1)) (vE:=[.int .i64 (-1)]) (xE:=.ret) (λ_=>?_) (λ_=>⟨?_,.inl rfl,rfl,rfl⟩)
 ·rw [bX (g:=SV.int .i64) (vF:=λi:Nat=>((i:Nat):Int)) (vE:=-1)] at key
  exact key
 ·obtain ⟨b1,b2⟩:=abS.1 hb
  have e:=YV y n p
  rw [cq (by omega)] at e
  exact Tr.aR (qJ [(16,true),(26,false),(30,false)]) 60 _ 0 (aaf _) (s':=EI y n ((p+1:Nat):Int)) _ e (SY y n p) (by
   rw [hw,Me (show (p:Int)<=2*(n:Int)-2 by omega),Me (show (0:Int)<=(p:Int) by omega),Me (show (p:Int)<64 by omega),b1,b2];rfl)
 ·cases b1:(aN ((p:Nat):Int)==((y:Nat):Int)) with
  |true=>exact Tr.aR (qJ [(16,true),(26,true)]) 60 _ 0 (aaf _) (s':=iS 33 4 ((p:Nat):Int)) _ (aey y n p) (YW y n p) (by
    rw [hw,Me (show (p:Int)<=2*(n:Int)-2 by omega),Me (show (0:Int)<=(p:Int) by omega),Me (show (p:Int)<64 by omega),b1];rfl)
  |false=>
   rw [b1] at hb
   have b2:(aH ((p:Nat):Int)==((y:Nat):Int))=true:=by simpa using hb
   exact Tr.aR (qJ [(16,true),(26,false),(30,true)]) 60 _ 0 (aaf _) (s':=iS 33 4 ((p:Nat):Int)) _ (aez y n p) (YX y n p) (by
    rw [hw,Me (show (p:Int)<=2*(n:Int)-2 by omega),Me (show (0:Int)<=(p:Int) by omega),Me (show (p:Int)<64 by omega),b1,b2];rfl)
 ·exact Tr.aR (qJ [(16,false)]) 60 _ 0 (aaf _) (s':=⟨slotsOf 33 [],[],true⟩) _ (SZ y n _) (M7 y n _) (by
   rw [hw,aam (show ¬(((2*n-1:Nat):Int))<=2*(n:Int)-2 by omega)];rfl)
 ·exact aV.rest (qJ []) 60 (by kernel_rfl) rfl
end Go.Proofs.YthlnlcijnoadcaaGreatDoor.Tr
end
