/- This file holds the texts BnJ, BnK, a section each. No conditions beyond those in the theorems. -/
import Derived.Test.YtibfpjeeanppjaaGreatUBnP
import Derived.Test.YtibfpjeeanppjaaGreatUBnF
import Derived.Test.YtibfpjeeanppjaaGreatUBnI
set_option linter.all false
set_option maxRecDepth 100000
section
namespace Go.Proofs.YtibfpjeeanppjaaGreat.Bn.Ul
open Go Go.Sy Sh
def H (n1 c1 n2 c2 m1 m2:Nat) (l1 l2:List Int):List Blk:=[.b [.nl (.slice none 0 0),.sl 1 0 0 1 n1 c1 true true,.sl 2 0 0 1 n2 c2 true true],.b [.ints .u8 m1 l1],.b [.ints .u8 m2 l2]]
noncomputable def S (ex wh:Bool) (h:List Blk) (k:Int):St:=⟨slotsOf 117 [(0,.sl 0 0 0 1 3 3 ex wh),(13,.sl 0 0 0 1 3 3 ex wh),(14,.int .i64 3),(15,.int .i64 k)],h,true⟩
noncomputable def T (ex wh:Bool) (h:List Blk) (k:Int) (l:SV) (n j:Int):St:=⟨slotsOf 117 [(0,.sl 0 0 0 1 3 3 ex wh),(3,.int .i64 k),(4,l),(13,.sl 0 0 0 1 3 3 ex wh),(14,.int .i64 3),(15,.int .i64 k),(21,.int .i64 n),(22,.int .i64 j)],h,true⟩
noncomputable def GS (ex wh:Bool) (h:List Blk) (g:SV) (gs:List SV) (k:Int):St:=⟨slotsOf 117 [(0,.sl 0 0 0 1 3 3 ex wh),(6,g),(38,.sl 0 0 0 1 3 3 ex wh),(39,.int .i64 3),(40,.int .i64 k)],h++[.b gs],true⟩
noncomputable def GT (ex wh:Bool) (h:List Blk) (g:SV) (gs:List SV) (k:Int) (l:SV) (n:Int) (hs:List Blk):St:=⟨slotsOf 117 [(0,.sl 0 0 0 1 3 3 ex wh),(6,g),(7,.int .i64 k),(8,l),(9,.int .i64 n),(38,.sl 0 0 0 1 3 3 ex wh),(39,.int .i64 3),(40,.int .i64 k)],h++[.b gs]++hs,true⟩
noncomputable def CS (ex wh:Bool) (h:List Blk) (gs:List SV) (k:Int):St:=⟨slotsOf 117 [(0,.sl 0 0 0 1 3 3 ex wh),(68,.sl 3 0 0 1 3 3 false true),(69,.int .i64 3),(70,.int .i64 k)],h++[.b gs],true⟩
noncomputable def CT (ex wh:Bool) (h:List Blk) (gs:List SV) (k:Int) (l:SV) (n j:Int):St:=⟨slotsOf 117 [(0,.sl 0 0 0 1 3 3 ex wh),(10,.int .i64 k),(11,l),(68,.sl 3 0 0 1 3 3 false true),(69,.int .i64 3),(70,.int .i64 k),(76,.int .i64 n),(77,.int .i64 j)],h++[.b gs],true⟩
section
variable (ex wh:Bool) (n1 c1 n2 c2 m1 m2:Nat) (l1 l2:List Int) (j n:Int)
include ex wh n1 c1 n2 c2 m1 m2 l1 l2 j n
theorem tG:(az Tryz.prog (bf f0 g0) 60 3 2 (atoms G6) ⟨aT Tryz.f17.ntmps [.sl 0 0 0 1 3 3 ex wh],(H n1 c1 n2 c2 m1 m2 l1 l2),true⟩).bind (St.cut [0,13,14,15] 3)=some (S ex wh (H n1 c1 n2 c2 m1 m2 l1 l2) 0):=by kernel_rfl
theorem w0:(exec Tryz.prog (bf f0 g0) 60 3 oC (S ex wh (H n1 c1 n2 c2 m1 m2 l1 l2) 0)).bind (fun r=>(r.2.cut [0,13,14,15] 3).map fun q=>(r.1,q))=some (.normal,S ex wh (H n1 c1 n2 c2 m1 m2 l1 l2) 1):=by kernel_rfl
theorem zo:(az Tryz.prog (bf f0 g0) 60 3 2 (atoms oC) (S ex wh (H n1 c1 n2 c2 m1 m2 l1 l2) 1)).bind (St.cut [0,13,14,15] 3)=some (S ex wh (H n1 c1 n2 c2 m1 m2 l1 l2) 1):=by kernel_rfl
theorem HX:(az Tryz.prog (bf f0 g0) 60 3 2 (atoms rP) (S ex wh (H n1 c1 n2 c2 m1 m2 l1 l2) 1)).bind (St.cut [0,3,4,13,14,15,21,22] 3)=some (T ex wh (H n1 c1 n2 c2 m1 m2 l1 l2) 1 (.sl 1 0 0 1 n1 c1 true true) n1 0):=by kernel_rfl
theorem HY:(exec Tryz.prog (bf (wY true) g0) 60 3 nV (T ex wh (H n1 c1 n2 c2 m1 m2 l1 l2) 1 (.sl 1 0 0 1 n1 c1 true true) n1 j)).bind (fun r=>(r.2.cut [0,3,4,13,14,15,21,22] 3).map fun q=>(r.1,q))=some (.normal,{T ex wh (H n1 c1 n2 c2 m1 m2 (l1.set (0+j.toNat) (pt 1 j)) l2) 1 (.sl 1 0 0 1 n1 c1 true true) n1 (J (j+1)) with ob:=wO j n1 m1 l1}):=by kernel_rfl
theorem HZ:(exec Tryz.prog (bf (wY false) g0) 60 3 nV (T ex wh (H n1 c1 n2 c2 m1 m2 l1 l2) 1 (.sl 1 0 0 1 n1 c1 true true) n1 j)).bind (fun r=>(r.2.cut [0,3,4,13,14,15,21,22] 3).map fun q=>(r.1,q))=some (.exit 2,{T ex wh (H n1 c1 n2 c2 m1 m2 l1 l2) 1 (.sl 1 0 0 1 n1 c1 true true) n1 j with ob:=aa true (!decide (j<n1))}):=by kernel_rfl
theorem H6:(exec Tryz.prog (bf f0 g0) 60 3 (ak 3 oC) (S ex wh (H n1 c1 n2 c2 m1 m2 l1 l2) 1)).bind (fun r=>(r.2.cut [0,13,14,15] 3).map fun q=>(r.1,q))=some (.normal,S ex wh (H n1 c1 n2 c2 m1 m2 l1 l2) 2):=by kernel_rfl
theorem zp:(az Tryz.prog (bf f0 g0) 60 3 2 (atoms oC) (S ex wh (H n1 c1 n2 c2 m1 m2 l1 l2) 2)).bind (St.cut [0,13,14,15] 3)=some (S ex wh (H n1 c1 n2 c2 m1 m2 l1 l2) 2):=by kernel_rfl
theorem H7:(az Tryz.prog (bf f0 g0) 60 3 2 (atoms rP) (S ex wh (H n1 c1 n2 c2 m1 m2 l1 l2) 2)).bind (St.cut [0,3,4,13,14,15,21,22] 3)=some (T ex wh (H n1 c1 n2 c2 m1 m2 l1 l2) 2 (.sl 2 0 0 1 n2 c2 true true) n2 0):=by kernel_rfl
theorem H8:(exec Tryz.prog (bf (wY true) g0) 60 3 nV (T ex wh (H n1 c1 n2 c2 m1 m2 l1 l2) 2 (.sl 2 0 0 1 n2 c2 true true) n2 j)).bind (fun r=>(r.2.cut [0,3,4,13,14,15,21,22] 3).map fun q=>(r.1,q))=some (.normal,{T ex wh (H n1 c1 n2 c2 m1 m2 l1 (l2.set (0+j.toNat) (pt 2 j))) 2 (.sl 2 0 0 1 n2 c2 true true) n2 (J (j+1)) with ob:=wO j n2 m2 l2}):=by kernel_rfl
theorem H9:(exec Tryz.prog (bf (wY false) g0) 60 3 nV (T ex wh (H n1 c1 n2 c2 m1 m2 l1 l2) 2 (.sl 2 0 0 1 n2 c2 true true) n2 j)).bind (fun r=>(r.2.cut [0,3,4,13,14,15,21,22] 3).map fun q=>(r.1,q))=some (.exit 2,{T ex wh (H n1 c1 n2 c2 m1 m2 l1 l2) 2 (.sl 2 0 0 1 n2 c2 true true) n2 j with ob:=aa true (!decide (j<n2))}):=by kernel_rfl
theorem Ia:(exec Tryz.prog (bf f0 g0) 60 3 (ak 3 oC) (S ex wh (H n1 c1 n2 c2 m1 m2 l1 l2) 2)).bind (fun r=>(r.2.cut [0,13,14,15] 3).map fun q=>(r.1,q))=some (.normal,S ex wh (H n1 c1 n2 c2 m1 m2 l1 l2) 3):=by kernel_rfl
theorem Y1:(exec Tryz.prog (bf f0 g0) 60 3 oC (S ex wh (H n1 c1 n2 c2 m1 m2 l1 l2) 3)).bind (fun r=>(r.2.cut [0,13,14,15] 3).map fun q=>(r.1,q))=some (.exit 0,S ex wh (H n1 c1 n2 c2 m1 m2 l1 l2) 3):=by kernel_rfl
theorem tH:(az Tryz.prog (bf f0 g0) 60 3 2 ((atoms G6).drop 3) (S ex wh (H n1 c1 n2 c2 m1 m2 l1 l2) 3)).bind (St.cut [0,6,38,39,40] 4)=some (GS ex wh (H n1 c1 n2 c2 m1 m2 l1 l2) (.sl 3 0 0 1 0 0 true true) [] 0):=by kernel_rfl
theorem zq (q0 q1 q2:List Int):(az Tryz.prog (bf f0 g0) 60 3 2 (atoms fK) (GS ex wh (H n1 c1 n2 c2 m1 m2 l1 l2) (.sl 3 0 0 1 0 0 true true) [] 0)).bind (St.cut [0,6,38,39,40] 4)=some (GS ex wh (H n1 c1 n2 c2 m1 m2 l1 l2) (.sl 3 0 0 1 0 0 true true) [] 0):=by kernel_rfl
theorem Ib (q0 q1 q2:List Int):(az Tryz.prog (bf f0 g0) 60 3 2 (atoms jb) (GS ex wh (H n1 c1 n2 c2 m1 m2 l1 l2) (.sl 3 0 0 1 0 0 true true) [] 0)).bind (St.cut [0,6,7,8,9,38,39,40] 4)=some (GT ex wh (H n1 c1 n2 c2 m1 m2 l1 l2) (.sl 3 0 0 1 0 0 true true) [] 0 (.nl (.slice none 0 0)) 0 []):=by kernel_rfl
theorem Ui (q0 q1 q2:List Int):(exec Tryz.prog (bf (gY true) g0) 60 3 ig (GT ex wh (H n1 c1 n2 c2 m1 m2 l1 l2) (.sl 3 0 0 1 0 0 true true) [] 0 (.nl (.slice none 0 0)) n [])).bind (fun r=>(r.2.cut [0,6,7,8,9,38,39,40] 6).map fun q=>(r.1,q))=some (.normal,{GT ex wh (H n1 c1 n2 c2 m1 m2 l1 l2) (.sl 3 0 0 1 0 0 true true) [] 0 (.sl 5 0 0 1 1 1 false true) n [.b [.ints .u8 1 [pt 0 0]],.b [.ints .u8 1 [pt 0 0]]] with ob:=aa true (decide (((0:Nat):Int)<J (n+10)))}):=by kernel_rfl
theorem Uj (x y:List Int) (m:Nat) (q0 q1 q2:List Int):(exec Tryz.prog (bf (gY true) g0) 60 3 ig (GT ex wh (H n1 c1 n2 c2 m1 m2 l1 l2) (.sl 3 0 0 1 0 0 true true) [] 0 (.sl 5 0 0 1 m m false true) n [.b [.ints .u8 1 x],.b [.ints .u8 m y]])).bind (fun r=>(r.2.cut [0,6,7,8,9,38,39,40] 6).map fun q=>(r.1,q))=some (.normal,{GT ex wh (H n1 c1 n2 c2 m1 m2 l1 l2) (.sl 3 0 0 1 0 0 true true) [] 0 (.sl 5 0 0 1 (m+1) (m+1) false true) n [.b [.ints .u8 1 x],.b [.ints .u8 (m+1) (y++[pt 0 m])]] with ob:=gP y m n}):=by kernel_rfl
theorem Ic (x y:List Int) (m:Nat) (q0 q1 q2:List Int):(exec Tryz.prog (bf (gY false) g0) 60 3 ig (GT ex wh (H n1 c1 n2 c2 m1 m2 l1 l2) (.sl 3 0 0 1 0 0 true true) [] 0 (.sl 5 0 0 1 m m false true) n [.b [.ints .u8 1 x],.b [.ints .u8 m y]])).bind (fun r=>(r.2.cut [0,6,7,8,9,38,39,40] 6).map fun q=>(r.1,q))=some (.exit 6,{GT ex wh (H n1 c1 n2 c2 m1 m2 l1 l2) (.sl 3 0 0 1 0 0 true true) [] 0 (.sl 5 0 0 1 m m false true) n [.b [.ints .u8 1 x],.b [.ints .u8 m y]] with ob:=aa true (!decide ((m:Int)<J (n+10)))}):=by kernel_rfl
theorem Uk (x y:List Int) (m:Nat) (q0 q1 q2:List Int):tI 5 4 (GT ex wh (H n1 c1 n2 c2 m1 m2 l1 l2) (.sl 3 0 0 1 0 0 true true) [] 0 (.sl 5 0 0 1 m m false true) n [.b [.ints .u8 1 x],.b [.ints .u8 m y]])=some (GT ex wh (H n1 c1 n2 c2 m1 m2 l1 l2) (.sl 3 0 0 1 0 0 true true) [] 0 (.ro true .u8 y) n [],aa (decide (y.length=m)) (decide (m=m)&&true)):=by kernel_rfl
theorem zu (y:List Int) (q0 q1 q2:List Int):(exec Tryz.prog (bf f0 g0) 60 3 (ak 3 jb) (GT ex wh (H n1 c1 n2 c2 m1 m2 l1 l2) (.sl 3 0 0 1 0 0 true true) [] 0 (.ro true .u8 y) n [])).bind (fun r=>(r.2.cut [0,6,38,39,40] 4).map fun q=>(r.1,q))=some (.normal,GS ex wh (H n1 c1 n2 c2 m1 m2 l1 l2) (.sl 3 0 0 1 1 1 false true) [.ro true .u8 y] 0):=by kernel_rfl
theorem Ie (q0 q1 q2:List Int):(exec Tryz.prog (bf f0 g0) 60 3 (ak 3 fK) (GS ex wh (H n1 c1 n2 c2 m1 m2 l1 l2) (.sl 3 0 0 1 1 1 false true) [.ro true .u8 q0] 0)).bind (fun r=>(r.2.cut [0,6,38,39,40] 4).map fun q=>(r.1,q))=some (.normal,GS ex wh (H n1 c1 n2 c2 m1 m2 l1 l2) (.sl 3 0 0 1 1 1 false true) [.ro true .u8 q0] 1):=by kernel_rfl
theorem zw (q0 q1 q2:List Int):(az Tryz.prog (bf f0 g0) 60 3 2 (atoms fK) (GS ex wh (H n1 c1 n2 c2 m1 m2 l1 l2) (.sl 3 0 0 1 1 1 false true) [.ro true .u8 q0] 1)).bind (St.cut [0,6,38,39,40] 4)=some (GS ex wh (H n1 c1 n2 c2 m1 m2 l1 l2) (.sl 3 0 0 1 1 1 false true) [.ro true .u8 q0] 1):=by kernel_rfl
theorem Ig (q0 q1 q2:List Int):(az Tryz.prog (bf f0 g0) 60 3 2 (atoms jb) (GS ex wh (H n1 c1 n2 c2 m1 m2 l1 l2) (.sl 3 0 0 1 1 1 false true) [.ro true .u8 q0] 1)).bind (St.cut [0,6,7,8,9,38,39,40] 4)=some (GT ex wh (H n1 c1 n2 c2 m1 m2 l1 l2) (.sl 3 0 0 1 1 1 false true) [.ro true .u8 q0] 1 (.sl 1 0 0 1 n1 c1 true true) n1 []):=by kernel_rfl
theorem Ih (q0 q1 q2:List Int):(exec Tryz.prog (bf (gY true) RY) 60 3 ig (GT ex wh (H n1 c1 n2 c2 m1 m2 l1 l2) (.sl 3 0 0 1 1 1 false true) [.ro true .u8 q0] 1 (.sl 1 0 0 1 m1 c1 true true) n [])).bind (fun r=>(r.2.cut [0,6,7,8,9,38,39,40] 4).map fun q=>(r.1,q))=some (.normal,{GT ex wh (H n1 c1 n2 c2 (m1+1) m2 (l1++[pt 1 m1]) l2) (.sl 3 0 0 1 1 1 false true) [.ro true .u8 q0] 1 (.sl 1 0 0 1 (m1+1) c1 true true) n [] with ob:=gO m1 n c1 l1}):=by kernel_rfl
theorem Ii (q0 q1 q2:List Int):(exec Tryz.prog (bf (gY true) g0) 60 3 ig (GT ex wh (H n1 c1 n2 c2 m1 m2 l1 l2) (.sl 3 0 0 1 1 1 false true) [.ro true .u8 q0] 1 (.sl 1 0 0 1 m1 c1 true true) n [])).bind (fun r=>(r.2.cut [0,6,7,8,9,38,39,40] 6).map fun q=>(r.1,q))=some (.normal,{GT ex wh (H n1 c1 n2 c2 m1 m2 l1 l2) (.sl 3 0 0 1 1 1 false true) [.ro true .u8 q0] 1 (.sl 5 0 0 1 (m1+1) (m1+1) false true) n [.b [.ints .u8 1 [pt 1 m1]],.b [.ints .u8 (m1+1) (l1++[pt 1 m1])]] with ob:=gM m1 n c1 l1}):=by kernel_rfl
theorem Ij (x y:List Int) (m:Nat) (q0 q1 q2:List Int):(exec Tryz.prog (bf (gY true) g0) 60 3 ig (GT ex wh (H n1 c1 n2 c2 m1 m2 l1 l2) (.sl 3 0 0 1 1 1 false true) [.ro true .u8 q0] 1 (.sl 5 0 0 1 m m false true) n [.b [.ints .u8 1 x],.b [.ints .u8 m y]])).bind (fun r=>(r.2.cut [0,6,7,8,9,38,39,40] 6).map fun q=>(r.1,q))=some (.normal,{GT ex wh (H n1 c1 n2 c2 m1 m2 l1 l2) (.sl 3 0 0 1 1 1 false true) [.ro true .u8 q0] 1 (.sl 5 0 0 1 (m+1) (m+1) false true) n [.b [.ints .u8 1 x],.b [.ints .u8 (m+1) (y++[pt 1 m])]] with ob:=gP y m n}):=by kernel_rfl
theorem Ik (x y:List Int) (m:Nat) (q0 q1 q2:List Int):(exec Tryz.prog (bf (gY false) g0) 60 3 ig (GT ex wh (H n1 c1 n2 c2 m1 m2 l1 l2) (.sl 3 0 0 1 1 1 false true) [.ro true .u8 q0] 1 (.sl 5 0 0 1 m m false true) n [.b [.ints .u8 1 x],.b [.ints .u8 m y]])).bind (fun r=>(r.2.cut [0,6,7,8,9,38,39,40] 6).map fun q=>(r.1,q))=some (.exit 6,{GT ex wh (H n1 c1 n2 c2 m1 m2 l1 l2) (.sl 3 0 0 1 1 1 false true) [.ro true .u8 q0] 1 (.sl 5 0 0 1 m m false true) n [.b [.ints .u8 1 x],.b [.ints .u8 m y]] with ob:=aa true (!decide ((m:Int)<J (n+10)))}):=by kernel_rfl
theorem Il (x y:List Int) (m:Nat) (q0 q1 q2:List Int):tI 5 4 (GT ex wh (H n1 c1 n2 c2 m1 m2 l1 l2) (.sl 3 0 0 1 1 1 false true) [.ro true .u8 q0] 1 (.sl 5 0 0 1 m m false true) n [.b [.ints .u8 1 x],.b [.ints .u8 m y]])=some (GT ex wh (H n1 c1 n2 c2 m1 m2 l1 l2) (.sl 3 0 0 1 1 1 false true) [.ro true .u8 q0] 1 (.ro true .u8 y) n [],aa (decide (y.length=m)) (decide (m=m)&&true)):=by kernel_rfl
theorem zx (y:List Int) (q0 q1 q2:List Int):(exec Tryz.prog (bf f0 g0) 60 3 (ak 3 jb) (GT ex wh (H n1 c1 n2 c2 m1 m2 l1 l2) (.sl 3 0 0 1 1 1 false true) [.ro true .u8 q0] 1 (.ro true .u8 y) n [])).bind (fun r=>(r.2.cut [0,6,38,39,40] 4).map fun q=>(r.1,q))=some (.normal,GS ex wh (H n1 c1 n2 c2 m1 m2 l1 l2) (.sl 3 0 0 1 2 2 false true) [.ro true .u8 q0,.ro true .u8 y] 1):=by kernel_rfl
theorem Im (q0 q1 q2:List Int):(exec Tryz.prog (bf f0 g0) 60 3 (ak 3 fK) (GS ex wh (H n1 c1 n2 c2 m1 m2 l1 l2) (.sl 3 0 0 1 2 2 false true) [.ro true .u8 q0,.ro true .u8 q1] 1)).bind (fun r=>(r.2.cut [0,6,38,39,40] 4).map fun q=>(r.1,q))=some (.normal,GS ex wh (H n1 c1 n2 c2 m1 m2 l1 l2) (.sl 3 0 0 1 2 2 false true) [.ro true .u8 q0,.ro true .u8 q1] 2):=by kernel_rfl
theorem zy (q0 q1 q2:List Int):(az Tryz.prog (bf f0 g0) 60 3 2 (atoms fK) (GS ex wh (H n1 c1 n2 c2 m1 m2 l1 l2) (.sl 3 0 0 1 2 2 false true) [.ro true .u8 q0,.ro true .u8 q1] 2)).bind (St.cut [0,6,38,39,40] 4)=some (GS ex wh (H n1 c1 n2 c2 m1 m2 l1 l2) (.sl 3 0 0 1 2 2 false true) [.ro true .u8 q0,.ro true .u8 q1] 2):=by kernel_rfl
theorem Io (q0 q1 q2:List Int):(az Tryz.prog (bf f0 g0) 60 3 2 (atoms jb) (GS ex wh (H n1 c1 n2 c2 m1 m2 l1 l2) (.sl 3 0 0 1 2 2 false true) [.ro true .u8 q0,.ro true .u8 q1] 2)).bind (St.cut [0,6,7,8,9,38,39,40] 4)=some (GT ex wh (H n1 c1 n2 c2 m1 m2 l1 l2) (.sl 3 0 0 1 2 2 false true) [.ro true .u8 q0,.ro true .u8 q1] 2 (.sl 2 0 0 1 n2 c2 true true) n2 []):=by kernel_rfl
theorem Ip (q0 q1 q2:List Int):(exec Tryz.prog (bf (gY true) RY) 60 3 ig (GT ex wh (H n1 c1 n2 c2 m1 m2 l1 l2) (.sl 3 0 0 1 2 2 false true) [.ro true .u8 q0,.ro true .u8 q1] 2 (.sl 2 0 0 1 m2 c2 true true) n [])).bind (fun r=>(r.2.cut [0,6,7,8,9,38,39,40] 4).map fun q=>(r.1,q))=some (.normal,{GT ex wh (H n1 c1 n2 c2 m1 (m2+1) l1 (l2++[pt 2 m2])) (.sl 3 0 0 1 2 2 false true) [.ro true .u8 q0,.ro true .u8 q1] 2 (.sl 2 0 0 1 (m2+1) c2 true true) n [] with ob:=gO m2 n c2 l2}):=by kernel_rfl
theorem Iq (q0 q1 q2:List Int):(exec Tryz.prog (bf (gY true) g0) 60 3 ig (GT ex wh (H n1 c1 n2 c2 m1 m2 l1 l2) (.sl 3 0 0 1 2 2 false true) [.ro true .u8 q0,.ro true .u8 q1] 2 (.sl 2 0 0 1 m2 c2 true true) n [])).bind (fun r=>(r.2.cut [0,6,7,8,9,38,39,40] 6).map fun q=>(r.1,q))=some (.normal,{GT ex wh (H n1 c1 n2 c2 m1 m2 l1 l2) (.sl 3 0 0 1 2 2 false true) [.ro true .u8 q0,.ro true .u8 q1] 2 (.sl 5 0 0 1 (m2+1) (m2+1) false true) n [.b [.ints .u8 1 [pt 2 m2]],.b [.ints .u8 (m2+1) (l2++[pt 2 m2])]] with ob:=gM m2 n c2 l2}):=by kernel_rfl
theorem Ir (x y:List Int) (m:Nat) (q0 q1 q2:List Int):(exec Tryz.prog (bf (gY true) g0) 60 3 ig (GT ex wh (H n1 c1 n2 c2 m1 m2 l1 l2) (.sl 3 0 0 1 2 2 false true) [.ro true .u8 q0,.ro true .u8 q1] 2 (.sl 5 0 0 1 m m false true) n [.b [.ints .u8 1 x],.b [.ints .u8 m y]])).bind (fun r=>(r.2.cut [0,6,7,8,9,38,39,40] 6).map fun q=>(r.1,q))=some (.normal,{GT ex wh (H n1 c1 n2 c2 m1 m2 l1 l2) (.sl 3 0 0 1 2 2 false true) [.ro true .u8 q0,.ro true .u8 q1] 2 (.sl 5 0 0 1 (m+1) (m+1) false true) n [.b [.ints .u8 1 x],.b [.ints .u8 (m+1) (y++[pt 2 m])]] with ob:=gP y m n}):=by kernel_rfl
theorem Is (x y:List Int) (m:Nat) (q0 q1 q2:List Int):(exec Tryz.prog (bf (gY false) g0) 60 3 ig (GT ex wh (H n1 c1 n2 c2 m1 m2 l1 l2) (.sl 3 0 0 1 2 2 false true) [.ro true .u8 q0,.ro true .u8 q1] 2 (.sl 5 0 0 1 m m false true) n [.b [.ints .u8 1 x],.b [.ints .u8 m y]])).bind (fun r=>(r.2.cut [0,6,7,8,9,38,39,40] 6).map fun q=>(r.1,q))=some (.exit 6,{GT ex wh (H n1 c1 n2 c2 m1 m2 l1 l2) (.sl 3 0 0 1 2 2 false true) [.ro true .u8 q0,.ro true .u8 q1] 2 (.sl 5 0 0 1 m m false true) n [.b [.ints .u8 1 x],.b [.ints .u8 m y]] with ob:=aa true (!decide ((m:Int)<J (n+10)))}):=by kernel_rfl
theorem It (x y:List Int) (m:Nat) (q0 q1 q2:List Int):tI 5 4 (GT ex wh (H n1 c1 n2 c2 m1 m2 l1 l2) (.sl 3 0 0 1 2 2 false true) [.ro true .u8 q0,.ro true .u8 q1] 2 (.sl 5 0 0 1 m m false true) n [.b [.ints .u8 1 x],.b [.ints .u8 m y]])=some (GT ex wh (H n1 c1 n2 c2 m1 m2 l1 l2) (.sl 3 0 0 1 2 2 false true) [.ro true .u8 q0,.ro true .u8 q1] 2 (.ro true .u8 y) n [],aa (decide (y.length=m)) (decide (m=m)&&true)):=by kernel_rfl
theorem zA (y:List Int) (q0 q1 q2:List Int):(exec Tryz.prog (bf f0 g0) 60 3 (ak 3 jb) (GT ex wh (H n1 c1 n2 c2 m1 m2 l1 l2) (.sl 3 0 0 1 2 2 false true) [.ro true .u8 q0,.ro true .u8 q1] 2 (.ro true .u8 y) n [])).bind (fun r=>(r.2.cut [0,6,38,39,40] 4).map fun q=>(r.1,q))=some (.normal,GS ex wh (H n1 c1 n2 c2 m1 m2 l1 l2) (.sl 3 0 0 1 3 3 false true) [.ro true .u8 q0,.ro true .u8 q1,.ro true .u8 y] 2):=by kernel_rfl
theorem Iu (q0 q1 q2:List Int):(exec Tryz.prog (bf f0 g0) 60 3 (ak 3 fK) (GS ex wh (H n1 c1 n2 c2 m1 m2 l1 l2) (.sl 3 0 0 1 3 3 false true) [.ro true .u8 q0,.ro true .u8 q1,.ro true .u8 q2] 2)).bind (fun r=>(r.2.cut [0,6,38,39,40] 4).map fun q=>(r.1,q))=some (.normal,GS ex wh (H n1 c1 n2 c2 m1 m2 l1 l2) (.sl 3 0 0 1 3 3 false true) [.ro true .u8 q0,.ro true .u8 q1,.ro true .u8 q2] 3):=by kernel_rfl
theorem Y2 (q0 q1 q2:List Int):(exec Tryz.prog (bf f0 g0) 60 3 fK (GS ex wh (H n1 c1 n2 c2 m1 m2 l1 l2) (.sl 3 0 0 1 3 3 false true) [.ro true .u8 q0,.ro true .u8 q1,.ro true .u8 q2] 3)).bind (fun r=>(r.2.cut [0,6,38,39,40] 4).map fun q=>(r.1,q))=some (.exit 4,GS ex wh (H n1 c1 n2 c2 m1 m2 l1 l2) (.sl 3 0 0 1 3 3 false true) [.ro true .u8 q0,.ro true .u8 q1,.ro true .u8 q2] 3):=by kernel_rfl
theorem tJ (q0 q1 q2:List Int):(az Tryz.prog (bf f0 g0) 60 3 1 ((atoms G6).drop 6) (GS ex wh (H n1 c1 n2 c2 m1 m2 l1 l2) (.sl 3 0 0 1 3 3 false true) [.ro true .u8 q0,.ro true .u8 q1,.ro true .u8 q2] 3)).bind (St.cut [0,68,69,70] 4)=some (CS ex wh (H n1 c1 n2 c2 m1 m2 l1 l2) [.ro true .u8 q0,.ro true .u8 q1,.ro true .u8 q2] 0):=by kernel_rfl
theorem zB (q0 q1 q2:List Int):(az Tryz.prog (bf f0 g0) 60 3 2 (atoms nW) (CS ex wh (H n1 c1 n2 c2 m1 m2 l1 l2) [.ro true .u8 q0,.ro true .u8 q1,.ro true .u8 q2] 0)).bind (St.cut [0,68,69,70] 4)=some (CS ex wh (H n1 c1 n2 c2 m1 m2 l1 l2) [.ro true .u8 q0,.ro true .u8 q1,.ro true .u8 q2] 0):=by kernel_rfl
theorem Iv (q0 q1 q2:List Int):(az Tryz.prog (bf f0 g0) 60 3 2 (atoms pH) (CS ex wh (H n1 c1 n2 c2 m1 m2 l1 l2) [.ro true .u8 q0,.ro true .u8 q1,.ro true .u8 q2] 0)).bind (St.cut [0,10,11,68,69,70,76,77] 4)=some (CT ex wh (H n1 c1 n2 c2 m1 m2 l1 l2) [.ro true .u8 q0,.ro true .u8 q1,.ro true .u8 q2] 0 (.ro true .u8 q0) (q0.length:Int) 0):=by kernel_rfl
theorem Iw (q0 q1 q2:List Int):(exec Tryz.prog (bf cZ g0) 60 3 jv (CT ex wh (H n1 c1 n2 c2 m1 m2 l1 l2) [.ro true .u8 q0,.ro true .u8 q1,.ro true .u8 q2] 0 (.ro true .u8 q0) n j)).bind (fun r=>(r.2.cut [0,10,11,68,69,70,76,77] 4).map fun q=>(r.1,q))=some (.normal,{CT ex wh (H n1 c1 n2 c2 m1 m2 l1 l2) [.ro true .u8 q0,.ro true .u8 q1,.ro true .u8 q2] 0 (.ro true .u8 q0) n (J (j+1)) with ob:=aa (aa (sV (aa true (decide (j<n))) j q0.length) (!(q0.getD j.toNat 0 != pt 0 j))) (!(decide (j<((0:Nat):Int))))}):=by kernel_rfl
theorem Ix (q0 q1 q2:List Int):(exec Tryz.prog (bf cE g0) 60 3 jv (CT ex wh (H n1 c1 n2 c2 m1 m2 l1 l2) [.ro true .u8 q0,.ro true .u8 q1,.ro true .u8 q2] 0 (.ro true .u8 q0) n j)).bind (fun r=>(r.2.cut [0,10,11,68,69,70,76,77] 4).map fun q=>(r.1,q))=some (.exit 10,{CT ex wh (H n1 c1 n2 c2 m1 m2 l1 l2) [.ro true .u8 q0,.ro true .u8 q1,.ro true .u8 q2] 0 (.ro true .u8 q0) n j with ob:=aa true (!decide (j<n))}):=by kernel_rfl
theorem Iy (q0 q1 q2:List Int):(exec Tryz.prog (bf f0 g0) 60 3 (ak 3 nW) (CS ex wh (H n1 c1 n2 c2 m1 m2 l1 l2) [.ro true .u8 q0,.ro true .u8 q1,.ro true .u8 q2] 0)).bind (fun r=>(r.2.cut [0,68,69,70] 4).map fun q=>(r.1,q))=some (.normal,CS ex wh (H n1 c1 n2 c2 m1 m2 l1 l2) [.ro true .u8 q0,.ro true .u8 q1,.ro true .u8 q2] 1):=by kernel_rfl
theorem zD (q0 q1 q2:List Int):(az Tryz.prog (bf f0 g0) 60 3 2 (atoms nW) (CS ex wh (H n1 c1 n2 c2 m1 m2 l1 l2) [.ro true .u8 q0,.ro true .u8 q1,.ro true .u8 q2] 1)).bind (St.cut [0,68,69,70] 4)=some (CS ex wh (H n1 c1 n2 c2 m1 m2 l1 l2) [.ro true .u8 q0,.ro true .u8 q1,.ro true .u8 q2] 1):=by kernel_rfl
theorem Iz (q0 q1 q2:List Int):(az Tryz.prog (bf f0 g0) 60 3 2 (atoms pH) (CS ex wh (H n1 c1 n2 c2 m1 m2 l1 l2) [.ro true .u8 q0,.ro true .u8 q1,.ro true .u8 q2] 1)).bind (St.cut [0,10,11,68,69,70,76,77] 4)=some (CT ex wh (H n1 c1 n2 c2 m1 m2 l1 l2) [.ro true .u8 q0,.ro true .u8 q1,.ro true .u8 q2] 1 (.ro true .u8 q1) (q1.length:Int) 0):=by kernel_rfl
theorem IA (q0 q1 q2:List Int):(exec Tryz.prog (bf cA g0) 60 3 jv (CT ex wh (H n1 c1 n2 c2 m1 m2 l1 l2) [.ro true .u8 q0,.ro true .u8 q1,.ro true .u8 q2] 1 (.ro true .u8 q1) n j)).bind (fun r=>(r.2.cut [0,10,11,68,69,70,76,77] 4).map fun q=>(r.1,q))=some (.normal,{CT ex wh (H n1 c1 n2 c2 m1 m2 l1 l2) [.ro true .u8 q0,.ro true .u8 q1,.ro true .u8 q2] 1 (.ro true .u8 q1) n (J (j+1)) with ob:=(aa (sV (vM (aa (aa (sV (aa true (decide (j<n))) j q1.length) (!(q1.getD j.toNat 0 != pt 1 j))) (decide (j<n1))) j n1 m1) j q1.length) (!(l1.getD (0+j.toNat) 0 != q1.getD j.toNat 0)))}):=by kernel_rfl
theorem IB (q0 q1 q2:List Int):(exec Tryz.prog (bf cZ g0) 60 3 jv (CT ex wh (H n1 c1 n2 c2 m1 m2 l1 l2) [.ro true .u8 q0,.ro true .u8 q1,.ro true .u8 q2] 1 (.ro true .u8 q1) n j)).bind (fun r=>(r.2.cut [0,10,11,68,69,70,76,77] 4).map fun q=>(r.1,q))=some (.normal,{CT ex wh (H n1 c1 n2 c2 m1 m2 l1 l2) [.ro true .u8 q0,.ro true .u8 q1,.ro true .u8 q2] 1 (.ro true .u8 q1) n (J (j+1)) with ob:=aa (aa (sV (aa true (decide (j<n))) j q1.length) (!(q1.getD j.toNat 0 != pt 1 j))) (!(decide (j<n1)))}):=by kernel_rfl
theorem IC (q0 q1 q2:List Int):(exec Tryz.prog (bf cE g0) 60 3 jv (CT ex wh (H n1 c1 n2 c2 m1 m2 l1 l2) [.ro true .u8 q0,.ro true .u8 q1,.ro true .u8 q2] 1 (.ro true .u8 q1) n j)).bind (fun r=>(r.2.cut [0,10,11,68,69,70,76,77] 4).map fun q=>(r.1,q))=some (.exit 10,{CT ex wh (H n1 c1 n2 c2 m1 m2 l1 l2) [.ro true .u8 q0,.ro true .u8 q1,.ro true .u8 q2] 1 (.ro true .u8 q1) n j with ob:=aa true (!decide (j<n))}):=by kernel_rfl
theorem ID (q0 q1 q2:List Int):(exec Tryz.prog (bf f0 g0) 60 3 (ak 3 nW) (CS ex wh (H n1 c1 n2 c2 m1 m2 l1 l2) [.ro true .u8 q0,.ro true .u8 q1,.ro true .u8 q2] 1)).bind (fun r=>(r.2.cut [0,68,69,70] 4).map fun q=>(r.1,q))=some (.normal,CS ex wh (H n1 c1 n2 c2 m1 m2 l1 l2) [.ro true .u8 q0,.ro true .u8 q1,.ro true .u8 q2] 2):=by kernel_rfl
theorem zE (q0 q1 q2:List Int):(az Tryz.prog (bf f0 g0) 60 3 2 (atoms nW) (CS ex wh (H n1 c1 n2 c2 m1 m2 l1 l2) [.ro true .u8 q0,.ro true .u8 q1,.ro true .u8 q2] 2)).bind (St.cut [0,68,69,70] 4)=some (CS ex wh (H n1 c1 n2 c2 m1 m2 l1 l2) [.ro true .u8 q0,.ro true .u8 q1,.ro true .u8 q2] 2):=by kernel_rfl
theorem IE (q0 q1 q2:List Int):(az Tryz.prog (bf f0 g0) 60 3 2 (atoms pH) (CS ex wh (H n1 c1 n2 c2 m1 m2 l1 l2) [.ro true .u8 q0,.ro true .u8 q1,.ro true .u8 q2] 2)).bind (St.cut [0,10,11,68,69,70,76,77] 4)=some (CT ex wh (H n1 c1 n2 c2 m1 m2 l1 l2) [.ro true .u8 q0,.ro true .u8 q1,.ro true .u8 q2] 2 (.ro true .u8 q2) (q2.length:Int) 0):=by kernel_rfl
theorem IF (q0 q1 q2:List Int):(exec Tryz.prog (bf cA g0) 60 3 jv (CT ex wh (H n1 c1 n2 c2 m1 m2 l1 l2) [.ro true .u8 q0,.ro true .u8 q1,.ro true .u8 q2] 2 (.ro true .u8 q2) n j)).bind (fun r=>(r.2.cut [0,10,11,68,69,70,76,77] 4).map fun q=>(r.1,q))=some (.normal,{CT ex wh (H n1 c1 n2 c2 m1 m2 l1 l2) [.ro true .u8 q0,.ro true .u8 q1,.ro true .u8 q2] 2 (.ro true .u8 q2) n (J (j+1)) with ob:=(aa (sV (vM (aa (aa (sV (aa true (decide (j<n))) j q2.length) (!(q2.getD j.toNat 0 != pt 2 j))) (decide (j<n2))) j n2 m2) j q2.length) (!(l2.getD (0+j.toNat) 0 != q2.getD j.toNat 0)))}):=by kernel_rfl
theorem IG (q0 q1 q2:List Int):(exec Tryz.prog (bf cZ g0) 60 3 jv (CT ex wh (H n1 c1 n2 c2 m1 m2 l1 l2) [.ro true .u8 q0,.ro true .u8 q1,.ro true .u8 q2] 2 (.ro true .u8 q2) n j)).bind (fun r=>(r.2.cut [0,10,11,68,69,70,76,77] 4).map fun q=>(r.1,q))=some (.normal,{CT ex wh (H n1 c1 n2 c2 m1 m2 l1 l2) [.ro true .u8 q0,.ro true .u8 q1,.ro true .u8 q2] 2 (.ro true .u8 q2) n (J (j+1)) with ob:=aa (aa (sV (aa true (decide (j<n))) j q2.length) (!(q2.getD j.toNat 0 != pt 2 j))) (!(decide (j<n2)))}):=by kernel_rfl
theorem II (q0 q1 q2:List Int):(exec Tryz.prog (bf cE g0) 60 3 jv (CT ex wh (H n1 c1 n2 c2 m1 m2 l1 l2) [.ro true .u8 q0,.ro true .u8 q1,.ro true .u8 q2] 2 (.ro true .u8 q2) n j)).bind (fun r=>(r.2.cut [0,10,11,68,69,70,76,77] 4).map fun q=>(r.1,q))=some (.exit 10,{CT ex wh (H n1 c1 n2 c2 m1 m2 l1 l2) [.ro true .u8 q0,.ro true .u8 q1,.ro true .u8 q2] 2 (.ro true .u8 q2) n j with ob:=aa true (!decide (j<n))}):=by kernel_rfl
theorem IJ (q0 q1 q2:List Int):(exec Tryz.prog (bf f0 g0) 60 3 (ak 3 nW) (CS ex wh (H n1 c1 n2 c2 m1 m2 l1 l2) [.ro true .u8 q0,.ro true .u8 q1,.ro true .u8 q2] 2)).bind (fun r=>(r.2.cut [0,68,69,70] 4).map fun q=>(r.1,q))=some (.normal,CS ex wh (H n1 c1 n2 c2 m1 m2 l1 l2) [.ro true .u8 q0,.ro true .u8 q1,.ro true .u8 q2] 3):=by kernel_rfl
theorem Y3 (q0 q1 q2:List Int):(exec Tryz.prog (bf f0 g0) 60 3 nW (CS ex wh (H n1 c1 n2 c2 m1 m2 l1 l2) [.ro true .u8 q0,.ro true .u8 q1,.ro true .u8 q2] 3)).bind (fun r=>(r.2.cut [0,68,69,70] 4).map fun q=>(r.1,q))=some (.exit 8,CS ex wh (H n1 c1 n2 c2 m1 m2 l1 l2) [.ro true .u8 q0,.ro true .u8 q1,.ro true .u8 q2] 3):=by kernel_rfl
end
section
variable {n1 c1 n2 c2:Nat} {l1 l2:List Int} (ex wh:Bool) (e1:l1.length=n1) (b1:n1<270000000000) (a1:n1≤c1) (i1:c1<n1+10) (e2:l2.length=n2) (b2:n2<270000000000) (a2:n2≤c2) (i2:c2<n2+10)
include e1 b1 a1 i1 e2 b2 a2 i2
theorem W0:Tr Tryz.prog none 3 oC (S ex wh (H n1 c1 n2 c2 (n1) (n2) (l1) (l2)) 0) .normal (S ex wh (H n1 c1 n2 c2 (n1) (n2) (l1) (l2)) 1):=Tr.cut (ah _ _) 60 _ 3 (by omega) (w0 ex wh n1 c1 n2 c2 (n1) (n2) (l1) (l2) (0) (0)) rfl
theorem W1:Tr Tryz.prog none 3 oC (S ex wh (H n1 c1 n2 c2 (n1) (n2) (l1) (l2)) 1) .normal (S ex wh (H n1 c1 n2 c2 (n1) (n2) (pat 1 n1) (l2)) 2):=by
 have loop:Tr Tryz.prog none 3 (ak 2 rP) (T ex wh (H n1 c1 n2 c2 (n1) (n2) (l1) (l2)) 1 (.sl 1 0 0 1 n1 c1 true true) n1 0) .normal (T ex wh (H n1 c1 n2 c2 (n1) (n2) (pat 1 n1) (l2)) 1 (.sl 1 0 0 1 n1 c1 true true) n1 n1):=by
  have key:=Tr.loop (P:=Tryz.prog) (ro:=none) (k:=3) 2 (c:=ak 2 rP) (by kernel_rfl) (fun j:Nat=>T ex wh (H n1 c1 n2 c2 (n1) (n2) (pat 1 j++l1.drop j) (l2)) 1 (.sl 1 0 0 1 n1 c1 true true) n1 j) n1 (s':=T ex wh (H n1 c1 n2 c2 (n1) (n2) (pat 1 n1) (l2)) 1 (.sl 1 0 0 1 n1 c1 true true) n1 n1) (fun j hj=>?_) ?_
  ·exact key
  ·show Tr _ _ _ nV _ _ _
   have e:=HY ex wh n1 c1 n2 c2 (n1) (n2) (pat 1 j++l1.drop j) (l2) (j) (0)
   rw [jw hj (by omega) (by rw [dK (by omega),e1]),Int.toNat_natCast,jx (by omega),bu (by omega) (by omega)] at e
   exact Tr.post (Tr.cut (ah _ _) 60 _ 3 (by omega) e rfl) (aU.same rfl rfl)
  ·show Tr _ _ _ nV _ _ _
   have e:=HZ ex wh n1 c1 n2 c2 (n1) (n2) (pat 1 n1) (l2) (n1) (0)
   rw [decide_eq_false (show ¬((n1:Int)<n1) by omega)] at e
   have h0:pat 1 n1++l1.drop n1=pat 1 n1:=by rw [←e1,jy]
   rw [h0]
   exact Tr.cut (ah _ _) 60 _ 3 (by omega) e rfl
 refine Tr.aD (aG.items (ah _ _) 60 2 _ 3 (by omega) (zo ex wh n1 c1 n2 c2 (n1) (n2) (l1) (l2) (0) (0)) rfl (by decide) ?_)
 refine aG.item 2 (by decide) (s1:=S ex wh (H n1 c1 n2 c2 (n1) (n2) (pat 1 n1) (l2)) 1) ?_ (aG.item 3 (by decide) (s1:=S ex wh (H n1 c1 n2 c2 (n1) (n2) (pat 1 n1) (l2)) 2) (Tr.cut (ah _ _) 60 _ 3 (by omega) (H6 ex wh n1 c1 n2 c2 (n1) (n2) (pat 1 n1) (l2) (0) (0)) rfl) ⟨rfl,rfl⟩)
 rw [RZ]
 refine Tr.aQ ?_ (by simp)
 refine Tr.aD (aG.items (ah _ _) 60 2 _ 3 (by omega) (HX ex wh n1 c1 n2 c2 (n1) (n2) (l1) (l2) (0) (0)) rfl (by decide) ?_)
 exact aG.item 2 (by decide) (Tr.post loop (aU.cut (n:=3) (live:=[0,13,14,15]) (by omega) (by kernel_rfl))) ⟨rfl,rfl⟩
theorem W2:Tr Tryz.prog none 3 oC (S ex wh (H n1 c1 n2 c2 (n1) (n2) (pat 1 n1) (l2)) 2) .normal (S ex wh (H n1 c1 n2 c2 (n1) (n2) (pat 1 n1) (pat 2 n2)) 3):=by
 have loop:Tr Tryz.prog none 3 (ak 2 rP) (T ex wh (H n1 c1 n2 c2 (n1) (n2) (pat 1 n1) (l2)) 2 (.sl 2 0 0 1 n2 c2 true true) n2 0) .normal (T ex wh (H n1 c1 n2 c2 (n1) (n2) (pat 1 n1) (pat 2 n2)) 2 (.sl 2 0 0 1 n2 c2 true true) n2 n2):=by
  have key:=Tr.loop (P:=Tryz.prog) (ro:=none) (k:=3) 2 (c:=ak 2 rP) (by kernel_rfl) (fun j:Nat=>T ex wh (H n1 c1 n2 c2 (n1) (n2) (pat 1 n1) (pat 2 j++l2.drop j)) 2 (.sl 2 0 0 1 n2 c2 true true) n2 j) n2 (s':=T ex wh (H n1 c1 n2 c2 (n1) (n2) (pat 1 n1) (pat 2 n2)) 2 (.sl 2 0 0 1 n2 c2 true true) n2 n2) (fun j hj=>?_) ?_
  ·exact key
  ·show Tr _ _ _ nV _ _ _
   have e:=H8 ex wh n1 c1 n2 c2 (n1) (n2) (pat 1 n1) (pat 2 j++l2.drop j) (j) (0)
   rw [jw hj (by omega) (by rw [dK (by omega),e2]),Int.toNat_natCast,jx (by omega),bu (by omega) (by omega)] at e
   exact Tr.post (Tr.cut (ah _ _) 60 _ 3 (by omega) e rfl) (aU.same rfl rfl)
  ·show Tr _ _ _ nV _ _ _
   have e:=H9 ex wh n1 c1 n2 c2 (n1) (n2) (pat 1 n1) (pat 2 n2) (n2) (0)
   rw [decide_eq_false (show ¬((n2:Int)<n2) by omega)] at e
   have h0:pat 2 n2++l2.drop n2=pat 2 n2:=by rw [←e2,jy]
   rw [h0]
   exact Tr.cut (ah _ _) 60 _ 3 (by omega) e rfl
 refine Tr.aD (aG.items (ah _ _) 60 2 _ 3 (by omega) (zp ex wh n1 c1 n2 c2 (n1) (n2) (pat 1 n1) (l2) (0) (0)) rfl (by decide) ?_)
 refine aG.item 2 (by decide) (s1:=S ex wh (H n1 c1 n2 c2 (n1) (n2) (pat 1 n1) (pat 2 n2)) 2) ?_ (aG.item 3 (by decide) (s1:=S ex wh (H n1 c1 n2 c2 (n1) (n2) (pat 1 n1) (pat 2 n2)) 3) (Tr.cut (ah _ _) 60 _ 3 (by omega) (Ia ex wh n1 c1 n2 c2 (n1) (n2) (pat 1 n1) (pat 2 n2) (0) (0)) rfl) ⟨rfl,rfl⟩)
 rw [RZ]
 refine Tr.aQ ?_ (by simp)
 refine Tr.aD (aG.items (ah _ _) 60 2 _ 3 (by omega) (H7 ex wh n1 c1 n2 c2 (n1) (n2) (pat 1 n1) (l2) (0) (0)) rfl (by decide) ?_)
 exact aG.item 2 (by decide) (Tr.post loop (aU.cut (n:=3) (live:=[0,13,14,15]) (by omega) (by kernel_rfl))) ⟨rfl,rfl⟩
theorem pI:Tr Tryz.prog none 3 (ak 2 jb) (GT ex wh (H n1 c1 n2 c2 (n1) (n2) (pat 1 n1) (pat 2 n2)) (.sl 3 0 0 1 0 0 true true) [] 0 (.nl (.slice none 0 0)) 0 []) .normal (GT ex wh (H n1 c1 n2 c2 (n1) (n2) (pat 1 n1) (pat 2 n2)) (.sl 3 0 0 1 0 0 true true) [] 0 (.sl 5 0 0 1 10 10 false true) 0 [.b [.ints .u8 1 [pt 0 0]],.b [.ints .u8 10 (pat 0 10)]]):=by
 have key:=Tr.loop (P:=Tryz.prog) (ro:=none) (k:=3) 6 (c:=ak 2 jb) (by kernel_rfl) (fun j:Nat=>if j=0 then GT ex wh (H n1 c1 n2 c2 (n1) (n2) (pat 1 n1) (pat 2 n2)) (.sl 3 0 0 1 0 0 true true) [] 0 (.nl (.slice none 0 0)) 0 [] else GT ex wh (H n1 c1 n2 c2 (n1) (n2) (pat 1 n1) (pat 2 n2)) (.sl 3 0 0 1 0 0 true true) [] 0 (.sl 5 0 0 1 j j false true) 0 [.b [.ints .u8 1 [pt 0 0]],.b [.ints .u8 j (pat 0 j)]]) 10 (s':=GT ex wh (H n1 c1 n2 c2 (n1) (n2) (pat 1 n1) (pat 2 n2)) (.sl 3 0 0 1 0 0 true true) [] 0 (.sl 5 0 0 1 10 10 false true) 0 [.b [.ints .u8 1 [pt 0 0]],.b [.ints .u8 10 (pat 0 10)]]) (fun j hj=>?_) ?_
 ·simp only [if_true] at key
  exact key
 ·show Tr _ _ _ ig _ _ _
  by_cases h1:j=0
  ·subst h1
   rw [if_pos rfl,if_neg (show ¬0+1=0 by omega)]
   have e:=Ui ex wh n1 c1 n2 c2 (n1) (n2) (pat 1 n1) (pat 2 n2) (0) (0) (pat 0 10) (pat 1 (n1+10)) (pat 2 (n2+10))
   exact Tr.post (Tr.cut (ah _ _) 60 _ 6 (by omega) e rfl) (aU.same rfl rfl)
  ·rw [if_neg h1,if_neg (show ¬j+1=0 by omega)]
   have e:=Uj ex wh n1 c1 n2 c2 (n1) (n2) (pat 1 n1) (pat 2 n2) (0) (0) [pt 0 0] (pat 0 j) j (pat 0 10) (pat 1 (n1+10)) (pat 2 (n2+10))
   rw [IK (by omega) (by omega) (aN _ _), ←bJ] at e
   exact Tr.post (Tr.cut (ah _ _) 60 _ 6 (by omega) e rfl) (aU.same rfl rfl)
 ·show Tr _ _ _ ig _ _ _
  rw [if_neg (show ¬10=0 by omega)]
  have e:=Ic ex wh n1 c1 n2 c2 (n1) (n2) (pat 1 n1) (pat 2 n2) (0) (0) [pt 0 0] (pat 0 10) 10 (pat 0 10) (pat 1 (n1+10)) (pat 2 (n2+10))
  exact Tr.cut (ah _ _) 60 _ 6 (by omega) e rfl
theorem G0:Tr Tryz.prog none 3 fK (GS ex wh (H n1 c1 n2 c2 (n1) (n2) (pat 1 n1) (pat 2 n2)) (.sl 3 0 0 1 0 0 true true) [] 0) .normal (GS ex wh (H n1 c1 n2 c2 (n1) (n2) (pat 1 n1) (pat 2 n2)) (.sl 3 0 0 1 1 1 false true) [.ro true .u8 (pat 0 10)] 1):=by
 have loop:Tr Tryz.prog none 3 (ak 2 jb) (GT ex wh (H n1 c1 n2 c2 (n1) (n2) (pat 1 n1) (pat 2 n2)) (.sl 3 0 0 1 0 0 true true) [] 0 (.nl (.slice none 0 0)) 0 []) .normal (GT ex wh (H n1 c1 n2 c2 (n1) (n2) (pat 1 n1) (pat 2 n2)) (.sl 3 0 0 1 0 0 true true) [] 0 (.ro true .u8 (pat 0 10)) 0 []):=(Tr.post (by exact pI ex wh e1 b1 a1 i1 e2 b2 a2 i2) (aU.tI (by omega) (by omega) (Uk ex wh n1 c1 n2 c2 (n1) (n2) (pat 1 n1) (pat 2 n2) (0) (0) [pt 0 0] (pat 0 10) 10 (pat 0 10) (pat 1 (n1+10)) (pat 2 (n2+10))) (by rw [aN,decide_eq_true rfl];rfl)))
 refine Tr.aD (aG.items (ah _ _) 60 2 _ 4 (by omega) (zq ex wh n1 c1 n2 c2 (n1) (n2) (pat 1 n1) (pat 2 n2) (0) (0) (pat 0 10) (pat 1 (n1+10)) (pat 2 (n2+10))) rfl (by decide) ?_)
 refine aG.item 2 (by decide) (s1:=GS ex wh (H n1 c1 n2 c2 (n1) (n2) (pat 1 n1) (pat 2 n2)) (.sl 3 0 0 1 1 1 false true) [.ro true .u8 (pat 0 10)] 0) ?_ (aG.item 3 (by decide) (s1:=GS ex wh (H n1 c1 n2 c2 (n1) (n2) (pat 1 n1) (pat 2 n2)) (.sl 3 0 0 1 1 1 false true) [.ro true .u8 (pat 0 10)] 1) (Tr.cut (ah _ _) 60 _ 4 (by omega) (Ie ex wh n1 c1 n2 c2 (n1) (n2) (pat 1 n1) (pat 2 n2) (0) (0) (pat 0 10) (pat 1 (n1+10)) (pat 2 (n2+10))) rfl) ⟨rfl,rfl⟩)
 rw [N8]
 refine Tr.aQ ?_ (by simp)
 refine Tr.aD (aG.items (ah _ _) 60 2 _ 4 (by omega) (Ib ex wh n1 c1 n2 c2 (n1) (n2) (pat 1 n1) (pat 2 n2) (0) (0) (pat 0 10) (pat 1 (n1+10)) (pat 2 (n2+10))) rfl (by decide) ?_)
 exact aG.item 2 (by decide) loop (aG.item 3 (by decide) (s1:=GS ex wh (H n1 c1 n2 c2 (n1) (n2) (pat 1 n1) (pat 2 n2)) (.sl 3 0 0 1 1 1 false true) [.ro true .u8 (pat 0 10)] 0) (Tr.cut (ah _ _) 60 _ 4 (by omega) (zu ex wh n1 c1 n2 c2 (n1) (n2) (pat 1 n1) (pat 2 n2) (0) (0) (pat 0 10) (pat 0 10) (pat 1 (n1+10)) (pat 2 (n2+10))) rfl) ⟨rfl,rfl⟩)
theorem pJ:Tr Tryz.prog none 3 (ak 2 jb) (GT ex wh (H n1 c1 n2 c2 (n1) (n2) (pat 1 n1) (pat 2 n2)) (.sl 3 0 0 1 1 1 false true) [.ro true .u8 (pat 0 10)] 1 (.sl 1 0 0 1 n1 c1 true true) n1 []) .normal (GT ex wh (H n1 c1 n2 c2 (n1+(c1-n1)) (n2) (pat 1 (n1+(c1-n1))) (pat 2 n2)) (.sl 3 0 0 1 1 1 false true) [.ro true .u8 (pat 0 10)] 1 (.sl 5 0 0 1 (n1+10) (n1+10) false true) n1 [.b [.ints .u8 1 [pt 1 ((n1+(c1-n1):Nat):Int)]],.b [.ints .u8 (n1+10) (pat 1 (n1+10))]]):=by
 have key:=Tr.loop (P:=Tryz.prog) (ro:=none) (k:=3) 6 (c:=ak 2 jb) (by kernel_rfl) (fun j:Nat=>if j≤(c1-n1) then GT ex wh (H n1 c1 n2 c2 (n1+j) (n2) (pat 1 (n1+j)) (pat 2 n2)) (.sl 3 0 0 1 1 1 false true) [.ro true .u8 (pat 0 10)] 1 (.sl 1 0 0 1 (n1+j) c1 true true) n1 [] else GT ex wh (H n1 c1 n2 c2 (n1+(c1-n1)) (n2) (pat 1 (n1+(c1-n1))) (pat 2 n2)) (.sl 3 0 0 1 1 1 false true) [.ro true .u8 (pat 0 10)] 1 (.sl 5 0 0 1 (n1+j) (n1+j) false true) n1 [.b [.ints .u8 1 [pt 1 ((n1+(c1-n1):Nat):Int)]],.b [.ints .u8 (n1+j) (pat 1 (n1+j))]]) 10 (s':=GT ex wh (H n1 c1 n2 c2 (n1+(c1-n1)) (n2) (pat 1 (n1+(c1-n1))) (pat 2 n2)) (.sl 3 0 0 1 1 1 false true) [.ro true .u8 (pat 0 10)] 1 (.sl 5 0 0 1 (n1+10) (n1+10) false true) n1 [.b [.ints .u8 1 [pt 1 ((n1+(c1-n1):Nat):Int)]],.b [.ints .u8 (n1+10) (pat 1 (n1+10))]]) (fun j hj=>?_) ?_
 ·simp only [Nat.zero_le,if_true] at key
  exact key
 ·show Tr _ _ _ ig _ _ _
  by_cases h1:j<(c1-n1)
  ·rw [if_pos (show j≤(c1-n1) by omega),if_pos (show j+1≤(c1-n1) by omega)]
   have e:=Ih ex wh n1 c1 n2 c2 (n1+j) (n2) (pat 1 (n1+j)) (pat 2 n2) (0) (n1) (pat 0 10) (pat 1 (n1+10)) (pat 2 (n2+10))
   rw [jz (by omega) (by omega) (by omega) (aN _ _), ←bJ] at e
   exact Tr.post (Tr.cut (ah _ _) 60 _ 4 (by omega) e rfl) (aU.same rfl rfl)
  ·by_cases h2:j=(c1-n1)
   ·rw [if_pos (show j≤(c1-n1) by omega),if_neg (show ¬j+1≤(c1-n1) by omega)]
    have e:=Ii ex wh n1 c1 n2 c2 (n1+j) (n2) (pat 1 (n1+j)) (pat 2 n2) (0) (n1) (pat 0 10) (pat 1 (n1+10)) (pat 2 (n2+10))
    rw [kO (by omega) (by omega) (by omega) (aN _ _), ←bJ] at e
    subst h2
    exact Tr.post (Tr.cut (ah _ _) 60 _ 6 (by omega) e rfl) (aU.same rfl rfl)
   ·rw [if_neg (show ¬j≤(c1-n1) by omega),if_neg (show ¬j+1≤(c1-n1) by omega)]
    have e:=Ij ex wh n1 c1 n2 c2 (n1+(c1-n1)) (n2) (pat 1 (n1+(c1-n1))) (pat 2 n2) (0) (n1) [pt 1 ((n1+(c1-n1):Nat):Int)] (pat 1 (n1+j)) (n1+j) (pat 0 10) (pat 1 (n1+10)) (pat 2 (n2+10))
    rw [jA (by omega) (by omega) (aN _ _), ←bJ] at e
    exact Tr.post (Tr.cut (ah _ _) 60 _ 6 (by omega) e rfl) (aU.same rfl rfl)
 ·show Tr _ _ _ ig _ _ _
  rw [if_neg (show ¬10≤(c1-n1) by omega)]
  have e:=Ik ex wh n1 c1 n2 c2 (n1+(c1-n1)) (n2) (pat 1 (n1+(c1-n1))) (pat 2 n2) (0) (n1) [pt 1 ((n1+(c1-n1):Nat):Int)] (pat 1 (n1+10)) (n1+10) (pat 0 10) (pat 1 (n1+10)) (pat 2 (n2+10))
  rw [bu (by omega) (by omega),decide_eq_false (show ¬(((n1+10:Nat):Int)<(n1:Int)+10) by omega)] at e
  exact Tr.cut (ah _ _) 60 _ 6 (by omega) e rfl
theorem G1:Tr Tryz.prog none 3 fK (GS ex wh (H n1 c1 n2 c2 (n1) (n2) (pat 1 n1) (pat 2 n2)) (.sl 3 0 0 1 1 1 false true) [.ro true .u8 (pat 0 10)] 1) .normal (GS ex wh (H n1 c1 n2 c2 (n1+(c1-n1)) (n2) (pat 1 (n1+(c1-n1))) (pat 2 n2)) (.sl 3 0 0 1 2 2 false true) [.ro true .u8 (pat 0 10),.ro true .u8 (pat 1 (n1+10))] 2):=by
 have loop:Tr Tryz.prog none 3 (ak 2 jb) (GT ex wh (H n1 c1 n2 c2 (n1) (n2) (pat 1 n1) (pat 2 n2)) (.sl 3 0 0 1 1 1 false true) [.ro true .u8 (pat 0 10)] 1 (.sl 1 0 0 1 n1 c1 true true) n1 []) .normal (GT ex wh (H n1 c1 n2 c2 (n1+(c1-n1)) (n2) (pat 1 (n1+(c1-n1))) (pat 2 n2)) (.sl 3 0 0 1 1 1 false true) [.ro true .u8 (pat 0 10)] 1 (.ro true .u8 (pat 1 (n1+10))) n1 []):=(Tr.post (by exact pJ ex wh e1 b1 a1 i1 e2 b2 a2 i2) (aU.tI (by omega) (by omega) (Il ex wh n1 c1 n2 c2 (n1+(c1-n1)) (n2) (pat 1 (n1+(c1-n1))) (pat 2 n2) (0) (n1) [pt 1 ((n1+(c1-n1):Nat):Int)] (pat 1 (n1+10)) (n1+10) (pat 0 10) (pat 1 (n1+10)) (pat 2 (n2+10))) (by rw [aN,decide_eq_true rfl];rfl)))
 refine Tr.aD (aG.items (ah _ _) 60 2 _ 4 (by omega) (zw ex wh n1 c1 n2 c2 (n1) (n2) (pat 1 n1) (pat 2 n2) (0) (0) (pat 0 10) (pat 1 (n1+10)) (pat 2 (n2+10))) rfl (by decide) ?_)
 refine aG.item 2 (by decide) (s1:=GS ex wh (H n1 c1 n2 c2 (n1+(c1-n1)) (n2) (pat 1 (n1+(c1-n1))) (pat 2 n2)) (.sl 3 0 0 1 2 2 false true) [.ro true .u8 (pat 0 10),.ro true .u8 (pat 1 (n1+10))] 1) ?_ (aG.item 3 (by decide) (s1:=GS ex wh (H n1 c1 n2 c2 (n1+(c1-n1)) (n2) (pat 1 (n1+(c1-n1))) (pat 2 n2)) (.sl 3 0 0 1 2 2 false true) [.ro true .u8 (pat 0 10),.ro true .u8 (pat 1 (n1+10))] 2) (Tr.cut (ah _ _) 60 _ 4 (by omega) (Im ex wh n1 c1 n2 c2 (n1+(c1-n1)) (n2) (pat 1 (n1+(c1-n1))) (pat 2 n2) (0) (0) (pat 0 10) (pat 1 (n1+10)) (pat 2 (n2+10))) rfl) ⟨rfl,rfl⟩)
 rw [N8]
 refine Tr.aQ ?_ (by simp)
 refine Tr.aD (aG.items (ah _ _) 60 2 _ 4 (by omega) (Ig ex wh n1 c1 n2 c2 (n1) (n2) (pat 1 n1) (pat 2 n2) (0) (0) (pat 0 10) (pat 1 (n1+10)) (pat 2 (n2+10))) rfl (by decide) ?_)
 exact aG.item 2 (by decide) loop (aG.item 3 (by decide) (s1:=GS ex wh (H n1 c1 n2 c2 (n1+(c1-n1)) (n2) (pat 1 (n1+(c1-n1))) (pat 2 n2)) (.sl 3 0 0 1 2 2 false true) [.ro true .u8 (pat 0 10),.ro true .u8 (pat 1 (n1+10))] 1) (Tr.cut (ah _ _) 60 _ 4 (by omega) (zx ex wh n1 c1 n2 c2 (n1+(c1-n1)) (n2) (pat 1 (n1+(c1-n1))) (pat 2 n2) (0) (n1) (pat 1 (n1+10)) (pat 0 10) (pat 1 (n1+10)) (pat 2 (n2+10))) rfl) ⟨rfl,rfl⟩)
theorem pK:Tr Tryz.prog none 3 (ak 2 jb) (GT ex wh (H n1 c1 n2 c2 (n1+(c1-n1)) (n2) (pat 1 (n1+(c1-n1))) (pat 2 n2)) (.sl 3 0 0 1 2 2 false true) [.ro true .u8 (pat 0 10),.ro true .u8 (pat 1 (n1+10))] 2 (.sl 2 0 0 1 n2 c2 true true) n2 []) .normal (GT ex wh (H n1 c1 n2 c2 (n1+(c1-n1)) (n2+(c2-n2)) (pat 1 (n1+(c1-n1))) (pat 2 (n2+(c2-n2)))) (.sl 3 0 0 1 2 2 false true) [.ro true .u8 (pat 0 10),.ro true .u8 (pat 1 (n1+10))] 2 (.sl 5 0 0 1 (n2+10) (n2+10) false true) n2 [.b [.ints .u8 1 [pt 2 ((n2+(c2-n2):Nat):Int)]],.b [.ints .u8 (n2+10) (pat 2 (n2+10))]]):=by
 have key:=Tr.loop (P:=Tryz.prog) (ro:=none) (k:=3) 6 (c:=ak 2 jb) (by kernel_rfl) (fun j:Nat=>if j≤(c2-n2) then GT ex wh (H n1 c1 n2 c2 (n1+(c1-n1)) (n2+j) (pat 1 (n1+(c1-n1))) (pat 2 (n2+j))) (.sl 3 0 0 1 2 2 false true) [.ro true .u8 (pat 0 10),.ro true .u8 (pat 1 (n1+10))] 2 (.sl 2 0 0 1 (n2+j) c2 true true) n2 [] else GT ex wh (H n1 c1 n2 c2 (n1+(c1-n1)) (n2+(c2-n2)) (pat 1 (n1+(c1-n1))) (pat 2 (n2+(c2-n2)))) (.sl 3 0 0 1 2 2 false true) [.ro true .u8 (pat 0 10),.ro true .u8 (pat 1 (n1+10))] 2 (.sl 5 0 0 1 (n2+j) (n2+j) false true) n2 [.b [.ints .u8 1 [pt 2 ((n2+(c2-n2):Nat):Int)]],.b [.ints .u8 (n2+j) (pat 2 (n2+j))]]) 10 (s':=GT ex wh (H n1 c1 n2 c2 (n1+(c1-n1)) (n2+(c2-n2)) (pat 1 (n1+(c1-n1))) (pat 2 (n2+(c2-n2)))) (.sl 3 0 0 1 2 2 false true) [.ro true .u8 (pat 0 10),.ro true .u8 (pat 1 (n1+10))] 2 (.sl 5 0 0 1 (n2+10) (n2+10) false true) n2 [.b [.ints .u8 1 [pt 2 ((n2+(c2-n2):Nat):Int)]],.b [.ints .u8 (n2+10) (pat 2 (n2+10))]]) (fun j hj=>?_) ?_
 ·simp only [Nat.zero_le,if_true] at key
  exact key
 ·show Tr _ _ _ ig _ _ _
  by_cases h1:j<(c2-n2)
  ·rw [if_pos (show j≤(c2-n2) by omega),if_pos (show j+1≤(c2-n2) by omega)]
   have e:=Ip ex wh n1 c1 n2 c2 (n1+(c1-n1)) (n2+j) (pat 1 (n1+(c1-n1))) (pat 2 (n2+j)) (0) (n2) (pat 0 10) (pat 1 (n1+10)) (pat 2 (n2+10))
   rw [jz (by omega) (by omega) (by omega) (aN _ _), ←bJ] at e
   exact Tr.post (Tr.cut (ah _ _) 60 _ 4 (by omega) e rfl) (aU.same rfl rfl)
  ·by_cases h2:j=(c2-n2)
   ·rw [if_pos (show j≤(c2-n2) by omega),if_neg (show ¬j+1≤(c2-n2) by omega)]
    have e:=Iq ex wh n1 c1 n2 c2 (n1+(c1-n1)) (n2+j) (pat 1 (n1+(c1-n1))) (pat 2 (n2+j)) (0) (n2) (pat 0 10) (pat 1 (n1+10)) (pat 2 (n2+10))
    rw [kO (by omega) (by omega) (by omega) (aN _ _), ←bJ] at e
    subst h2
    exact Tr.post (Tr.cut (ah _ _) 60 _ 6 (by omega) e rfl) (aU.same rfl rfl)
   ·rw [if_neg (show ¬j≤(c2-n2) by omega),if_neg (show ¬j+1≤(c2-n2) by omega)]
    have e:=Ir ex wh n1 c1 n2 c2 (n1+(c1-n1)) (n2+(c2-n2)) (pat 1 (n1+(c1-n1))) (pat 2 (n2+(c2-n2))) (0) (n2) [pt 2 ((n2+(c2-n2):Nat):Int)] (pat 2 (n2+j)) (n2+j) (pat 0 10) (pat 1 (n1+10)) (pat 2 (n2+10))
    rw [jA (by omega) (by omega) (aN _ _), ←bJ] at e
    exact Tr.post (Tr.cut (ah _ _) 60 _ 6 (by omega) e rfl) (aU.same rfl rfl)
 ·show Tr _ _ _ ig _ _ _
  rw [if_neg (show ¬10≤(c2-n2) by omega)]
  have e:=Is ex wh n1 c1 n2 c2 (n1+(c1-n1)) (n2+(c2-n2)) (pat 1 (n1+(c1-n1))) (pat 2 (n2+(c2-n2))) (0) (n2) [pt 2 ((n2+(c2-n2):Nat):Int)] (pat 2 (n2+10)) (n2+10) (pat 0 10) (pat 1 (n1+10)) (pat 2 (n2+10))
  rw [bu (by omega) (by omega),decide_eq_false (show ¬(((n2+10:Nat):Int)<(n2:Int)+10) by omega)] at e
  exact Tr.cut (ah _ _) 60 _ 6 (by omega) e rfl
theorem G2:Tr Tryz.prog none 3 fK (GS ex wh (H n1 c1 n2 c2 (n1+(c1-n1)) (n2) (pat 1 (n1+(c1-n1))) (pat 2 n2)) (.sl 3 0 0 1 2 2 false true) [.ro true .u8 (pat 0 10),.ro true .u8 (pat 1 (n1+10))] 2) .normal (GS ex wh (H n1 c1 n2 c2 (n1+(c1-n1)) (n2+(c2-n2)) (pat 1 (n1+(c1-n1))) (pat 2 (n2+(c2-n2)))) (.sl 3 0 0 1 3 3 false true) [.ro true .u8 (pat 0 10),.ro true .u8 (pat 1 (n1+10)),.ro true .u8 (pat 2 (n2+10))] 3):=by
 have loop:Tr Tryz.prog none 3 (ak 2 jb) (GT ex wh (H n1 c1 n2 c2 (n1+(c1-n1)) (n2) (pat 1 (n1+(c1-n1))) (pat 2 n2)) (.sl 3 0 0 1 2 2 false true) [.ro true .u8 (pat 0 10),.ro true .u8 (pat 1 (n1+10))] 2 (.sl 2 0 0 1 n2 c2 true true) n2 []) .normal (GT ex wh (H n1 c1 n2 c2 (n1+(c1-n1)) (n2+(c2-n2)) (pat 1 (n1+(c1-n1))) (pat 2 (n2+(c2-n2)))) (.sl 3 0 0 1 2 2 false true) [.ro true .u8 (pat 0 10),.ro true .u8 (pat 1 (n1+10))] 2 (.ro true .u8 (pat 2 (n2+10))) n2 []):=(Tr.post (by exact pK ex wh e1 b1 a1 i1 e2 b2 a2 i2) (aU.tI (by omega) (by omega) (It ex wh n1 c1 n2 c2 (n1+(c1-n1)) (n2+(c2-n2)) (pat 1 (n1+(c1-n1))) (pat 2 (n2+(c2-n2))) (0) (n2) [pt 2 ((n2+(c2-n2):Nat):Int)] (pat 2 (n2+10)) (n2+10) (pat 0 10) (pat 1 (n1+10)) (pat 2 (n2+10))) (by rw [aN,decide_eq_true rfl];rfl)))
 refine Tr.aD (aG.items (ah _ _) 60 2 _ 4 (by omega) (zy ex wh n1 c1 n2 c2 (n1+(c1-n1)) (n2) (pat 1 (n1+(c1-n1))) (pat 2 n2) (0) (0) (pat 0 10) (pat 1 (n1+10)) (pat 2 (n2+10))) rfl (by decide) ?_)
 refine aG.item 2 (by decide) (s1:=GS ex wh (H n1 c1 n2 c2 (n1+(c1-n1)) (n2+(c2-n2)) (pat 1 (n1+(c1-n1))) (pat 2 (n2+(c2-n2)))) (.sl 3 0 0 1 3 3 false true) [.ro true .u8 (pat 0 10),.ro true .u8 (pat 1 (n1+10)),.ro true .u8 (pat 2 (n2+10))] 2) ?_ (aG.item 3 (by decide) (s1:=GS ex wh (H n1 c1 n2 c2 (n1+(c1-n1)) (n2+(c2-n2)) (pat 1 (n1+(c1-n1))) (pat 2 (n2+(c2-n2)))) (.sl 3 0 0 1 3 3 false true) [.ro true .u8 (pat 0 10),.ro true .u8 (pat 1 (n1+10)),.ro true .u8 (pat 2 (n2+10))] 3) (Tr.cut (ah _ _) 60 _ 4 (by omega) (Iu ex wh n1 c1 n2 c2 (n1+(c1-n1)) (n2+(c2-n2)) (pat 1 (n1+(c1-n1))) (pat 2 (n2+(c2-n2))) (0) (0) (pat 0 10) (pat 1 (n1+10)) (pat 2 (n2+10))) rfl) ⟨rfl,rfl⟩)
 rw [N8]
 refine Tr.aQ ?_ (by simp)
 refine Tr.aD (aG.items (ah _ _) 60 2 _ 4 (by omega) (Io ex wh n1 c1 n2 c2 (n1+(c1-n1)) (n2) (pat 1 (n1+(c1-n1))) (pat 2 n2) (0) (0) (pat 0 10) (pat 1 (n1+10)) (pat 2 (n2+10))) rfl (by decide) ?_)
 exact aG.item 2 (by decide) loop (aG.item 3 (by decide) (s1:=GS ex wh (H n1 c1 n2 c2 (n1+(c1-n1)) (n2+(c2-n2)) (pat 1 (n1+(c1-n1))) (pat 2 (n2+(c2-n2)))) (.sl 3 0 0 1 3 3 false true) [.ro true .u8 (pat 0 10),.ro true .u8 (pat 1 (n1+10)),.ro true .u8 (pat 2 (n2+10))] 2) (Tr.cut (ah _ _) 60 _ 4 (by omega) (zA ex wh n1 c1 n2 c2 (n1+(c1-n1)) (n2+(c2-n2)) (pat 1 (n1+(c1-n1))) (pat 2 (n2+(c2-n2))) (0) (n2) (pat 2 (n2+10)) (pat 0 10) (pat 1 (n1+10)) (pat 2 (n2+10))) rfl) ⟨rfl,rfl⟩)
theorem C0:Tr Tryz.prog none 3 nW (CS ex wh (H n1 c1 n2 c2 (n1+(c1-n1)) (n2+(c2-n2)) (pat 1 (n1+(c1-n1))) (pat 2 (n2+(c2-n2)))) [.ro true .u8 (pat 0 10),.ro true .u8 (pat 1 (n1+10)),.ro true .u8 (pat 2 (n2+10))] 0) .normal (CS ex wh (H n1 c1 n2 c2 (n1+(c1-n1)) (n2+(c2-n2)) (pat 1 (n1+(c1-n1))) (pat 2 (n2+(c2-n2)))) [.ro true .u8 (pat 0 10),.ro true .u8 (pat 1 (n1+10)),.ro true .u8 (pat 2 (n2+10))] 1):=by
 have loop:Tr Tryz.prog none 3 (ak 2 pH) (CT ex wh (H n1 c1 n2 c2 (n1+(c1-n1)) (n2+(c2-n2)) (pat 1 (n1+(c1-n1))) (pat 2 (n2+(c2-n2)))) [.ro true .u8 (pat 0 10),.ro true .u8 (pat 1 (n1+10)),.ro true .u8 (pat 2 (n2+10))] 0 (.ro true .u8 (pat 0 10)) ((10:Nat):Int) 0) .normal (CT ex wh (H n1 c1 n2 c2 (n1+(c1-n1)) (n2+(c2-n2)) (pat 1 (n1+(c1-n1))) (pat 2 (n2+(c2-n2)))) [.ro true .u8 (pat 0 10),.ro true .u8 (pat 1 (n1+10)),.ro true .u8 (pat 2 (n2+10))] 0 (.ro true .u8 (pat 0 10)) ((10:Nat):Int) ((10:Nat):Int)):=by
  have key:=Tr.loop (P:=Tryz.prog) (ro:=none) (k:=3) 10 (c:=ak 2 pH) (by kernel_rfl) (fun j:Nat=>CT ex wh (H n1 c1 n2 c2 (n1+(c1-n1)) (n2+(c2-n2)) (pat 1 (n1+(c1-n1))) (pat 2 (n2+(c2-n2)))) [.ro true .u8 (pat 0 10),.ro true .u8 (pat 1 (n1+10)),.ro true .u8 (pat 2 (n2+10))] 0 (.ro true .u8 (pat 0 10)) ((10:Nat):Int) j) 10 (s':=CT ex wh (H n1 c1 n2 c2 (n1+(c1-n1)) (n2+(c2-n2)) (pat 1 (n1+(c1-n1))) (pat 2 (n2+(c2-n2)))) [.ro true .u8 (pat 0 10),.ro true .u8 (pat 1 (n1+10)),.ro true .u8 (pat 2 (n2+10))] 0 (.ro true .u8 (pat 0 10)) ((10:Nat):Int) ((10:Nat):Int)) (fun j hj=>?_) ?_
  ·exact key
  ·show Tr _ _ _ jv _ _ _
   have e:=Iw ex wh n1 c1 n2 c2 (n1+(c1-n1)) (n2+(c2-n2)) (pat 1 (n1+(c1-n1))) (pat 2 (n2+(c2-n2))) (j) (((10:Nat):Int)) (pat 0 10) (pat 1 (n1+10)) (pat 2 (n2+10))
   rw [Int.toNat_natCast,cm 0 (show j<10 by omega),ck,decide_eq_true (show ((j:Int)<((10:Nat):Int)) by omega),aN,bU (ob:=aa true true) rfl hj,decide_eq_false (show ¬((j:Int)<((0:Nat):Int)) by omega),bu (by omega) (by omega)] at e
   exact Tr.post (Tr.cut (ah _ _) 60 _ 4 (by omega) e rfl) (aU.same rfl rfl)
  ·show Tr _ _ _ jv _ _ _
   have e:=Ix ex wh n1 c1 n2 c2 (n1+(c1-n1)) (n2+(c2-n2)) (pat 1 (n1+(c1-n1))) (pat 2 (n2+(c2-n2))) (((10:Nat):Int)) (((10:Nat):Int)) (pat 0 10) (pat 1 (n1+10)) (pat 2 (n2+10))
   rw [decide_eq_false (show ¬(((10:Nat):Int)<((10:Nat):Int)) by omega)] at e
   exact Tr.cut (ah _ _) 60 _ 4 (by omega) e rfl
 refine Tr.aD (aG.items (ah _ _) 60 2 _ 4 (by omega) (zB ex wh n1 c1 n2 c2 (n1+(c1-n1)) (n2+(c2-n2)) (pat 1 (n1+(c1-n1))) (pat 2 (n2+(c2-n2))) (0) (0) (pat 0 10) (pat 1 (n1+10)) (pat 2 (n2+10))) rfl (by decide) ?_)
 refine aG.item 2 (by decide) (s1:=CS ex wh (H n1 c1 n2 c2 (n1+(c1-n1)) (n2+(c2-n2)) (pat 1 (n1+(c1-n1))) (pat 2 (n2+(c2-n2)))) [.ro true .u8 (pat 0 10),.ro true .u8 (pat 1 (n1+10)),.ro true .u8 (pat 2 (n2+10))] 0) ?_ (aG.item 3 (by decide) (s1:=CS ex wh (H n1 c1 n2 c2 (n1+(c1-n1)) (n2+(c2-n2)) (pat 1 (n1+(c1-n1))) (pat 2 (n2+(c2-n2)))) [.ro true .u8 (pat 0 10),.ro true .u8 (pat 1 (n1+10)),.ro true .u8 (pat 2 (n2+10))] 1) (Tr.cut (ah _ _) 60 _ 4 (by omega) (Iy ex wh n1 c1 n2 c2 (n1+(c1-n1)) (n2+(c2-n2)) (pat 1 (n1+(c1-n1))) (pat 2 (n2+(c2-n2))) (0) (0) (pat 0 10) (pat 1 (n1+10)) (pat 2 (n2+10))) rfl) ⟨rfl,rfl⟩)
 rw [N9]
 refine Tr.aQ ?_ (by simp)
 have ea:=Iv ex wh n1 c1 n2 c2 (n1+(c1-n1)) (n2+(c2-n2)) (pat 1 (n1+(c1-n1))) (pat 2 (n2+(c2-n2))) (0) (0) (pat 0 10) (pat 1 (n1+10)) (pat 2 (n2+10))
 rw [aN] at ea
 refine Tr.aD (aG.items (ah _ _) 60 2 _ 4 (by omega) ea rfl (by decide) ?_)
 exact aG.item 2 (by decide) (Tr.post loop (aU.cut (n:=4) (live:=[0,68,69,70]) (by omega) (by kernel_rfl))) ⟨rfl,rfl⟩
theorem C1:Tr Tryz.prog none 3 nW (CS ex wh (H n1 c1 n2 c2 (n1+(c1-n1)) (n2+(c2-n2)) (pat 1 (n1+(c1-n1))) (pat 2 (n2+(c2-n2)))) [.ro true .u8 (pat 0 10),.ro true .u8 (pat 1 (n1+10)),.ro true .u8 (pat 2 (n2+10))] 1) .normal (CS ex wh (H n1 c1 n2 c2 (n1+(c1-n1)) (n2+(c2-n2)) (pat 1 (n1+(c1-n1))) (pat 2 (n2+(c2-n2)))) [.ro true .u8 (pat 0 10),.ro true .u8 (pat 1 (n1+10)),.ro true .u8 (pat 2 (n2+10))] 2):=by
 have loop:Tr Tryz.prog none 3 (ak 2 pH) (CT ex wh (H n1 c1 n2 c2 (n1+(c1-n1)) (n2+(c2-n2)) (pat 1 (n1+(c1-n1))) (pat 2 (n2+(c2-n2)))) [.ro true .u8 (pat 0 10),.ro true .u8 (pat 1 (n1+10)),.ro true .u8 (pat 2 (n2+10))] 1 (.ro true .u8 (pat 1 (n1+10))) (((n1+10):Nat):Int) 0) .normal (CT ex wh (H n1 c1 n2 c2 (n1+(c1-n1)) (n2+(c2-n2)) (pat 1 (n1+(c1-n1))) (pat 2 (n2+(c2-n2)))) [.ro true .u8 (pat 0 10),.ro true .u8 (pat 1 (n1+10)),.ro true .u8 (pat 2 (n2+10))] 1 (.ro true .u8 (pat 1 (n1+10))) (((n1+10):Nat):Int) (((n1+10):Nat):Int)):=by
  have key:=Tr.loop (P:=Tryz.prog) (ro:=none) (k:=3) 10 (c:=ak 2 pH) (by kernel_rfl) (fun j:Nat=>CT ex wh (H n1 c1 n2 c2 (n1+(c1-n1)) (n2+(c2-n2)) (pat 1 (n1+(c1-n1))) (pat 2 (n2+(c2-n2)))) [.ro true .u8 (pat 0 10),.ro true .u8 (pat 1 (n1+10)),.ro true .u8 (pat 2 (n2+10))] 1 (.ro true .u8 (pat 1 (n1+10))) (((n1+10):Nat):Int) j) (n1+10) (s':=CT ex wh (H n1 c1 n2 c2 (n1+(c1-n1)) (n2+(c2-n2)) (pat 1 (n1+(c1-n1))) (pat 2 (n2+(c2-n2)))) [.ro true .u8 (pat 0 10),.ro true .u8 (pat 1 (n1+10)),.ro true .u8 (pat 2 (n2+10))] 1 (.ro true .u8 (pat 1 (n1+10))) (((n1+10):Nat):Int) (((n1+10):Nat):Int)) (fun j hj=>?_) ?_
  ·exact key
  ·show Tr _ _ _ jv _ _ _
   by_cases h1:j<n1
   ·have e:=IA ex wh n1 c1 n2 c2 (n1+(c1-n1)) (n2+(c2-n2)) (pat 1 (n1+(c1-n1))) (pat 2 (n2+(c2-n2))) (j) ((((n1+10):Nat):Int)) (pat 0 10) (pat 1 (n1+10)) (pat 2 (n2+10))
    rw [Int.toNat_natCast,Nat.zero_add,cm 1 (show j<n1+10 by omega),cm 1 (show j<n1+(c1-n1) by omega),ck,decide_eq_true (show ((j:Int)<((n1+10:Nat):Int)) by omega),aN,bU (ob:=aa true true) rfl hj,decide_eq_true (show ((j:Int)<(n1:Int)) by omega),cN (ob:=aa (aa true (!false)) true) rfl h1 (by omega),bU (ob:=true) rfl hj,bu (by omega) (by omega)] at e
    exact Tr.post (Tr.cut (ah _ _) 60 _ 4 (by omega) e rfl) (aU.same rfl rfl)
   ·have e:=IB ex wh n1 c1 n2 c2 (n1+(c1-n1)) (n2+(c2-n2)) (pat 1 (n1+(c1-n1))) (pat 2 (n2+(c2-n2))) (j) ((((n1+10):Nat):Int)) (pat 0 10) (pat 1 (n1+10)) (pat 2 (n2+10))
    rw [Int.toNat_natCast,cm 1 (show j<n1+10 by omega),ck,decide_eq_true (show ((j:Int)<((n1+10:Nat):Int)) by omega),aN,bU (ob:=aa true true) rfl hj,decide_eq_false (show ¬((j:Int)<(n1:Int)) by omega),bu (by omega) (by omega)] at e
    exact Tr.post (Tr.cut (ah _ _) 60 _ 4 (by omega) e rfl) (aU.same rfl rfl)
  ·show Tr _ _ _ jv _ _ _
   have e:=IC ex wh n1 c1 n2 c2 (n1+(c1-n1)) (n2+(c2-n2)) (pat 1 (n1+(c1-n1))) (pat 2 (n2+(c2-n2))) ((((n1+10):Nat):Int)) ((((n1+10):Nat):Int)) (pat 0 10) (pat 1 (n1+10)) (pat 2 (n2+10))
   rw [decide_eq_false (show ¬((((n1+10):Nat):Int)<(((n1+10):Nat):Int)) by omega)] at e
   exact Tr.cut (ah _ _) 60 _ 4 (by omega) e rfl
 refine Tr.aD (aG.items (ah _ _) 60 2 _ 4 (by omega) (zD ex wh n1 c1 n2 c2 (n1+(c1-n1)) (n2+(c2-n2)) (pat 1 (n1+(c1-n1))) (pat 2 (n2+(c2-n2))) (0) (0) (pat 0 10) (pat 1 (n1+10)) (pat 2 (n2+10))) rfl (by decide) ?_)
 refine aG.item 2 (by decide) (s1:=CS ex wh (H n1 c1 n2 c2 (n1+(c1-n1)) (n2+(c2-n2)) (pat 1 (n1+(c1-n1))) (pat 2 (n2+(c2-n2)))) [.ro true .u8 (pat 0 10),.ro true .u8 (pat 1 (n1+10)),.ro true .u8 (pat 2 (n2+10))] 1) ?_ (aG.item 3 (by decide) (s1:=CS ex wh (H n1 c1 n2 c2 (n1+(c1-n1)) (n2+(c2-n2)) (pat 1 (n1+(c1-n1))) (pat 2 (n2+(c2-n2)))) [.ro true .u8 (pat 0 10),.ro true .u8 (pat 1 (n1+10)),.ro true .u8 (pat 2 (n2+10))] 2) (Tr.cut (ah _ _) 60 _ 4 (by omega) (ID ex wh n1 c1 n2 c2 (n1+(c1-n1)) (n2+(c2-n2)) (pat 1 (n1+(c1-n1))) (pat 2 (n2+(c2-n2))) (0) (0) (pat 0 10) (pat 1 (n1+10)) (pat 2 (n2+10))) rfl) ⟨rfl,rfl⟩)
 rw [N9]
 refine Tr.aQ ?_ (by simp)
 have ea:=Iz ex wh n1 c1 n2 c2 (n1+(c1-n1)) (n2+(c2-n2)) (pat 1 (n1+(c1-n1))) (pat 2 (n2+(c2-n2))) (0) (0) (pat 0 10) (pat 1 (n1+10)) (pat 2 (n2+10))
 rw [aN] at ea
 refine Tr.aD (aG.items (ah _ _) 60 2 _ 4 (by omega) ea rfl (by decide) ?_)
 exact aG.item 2 (by decide) (Tr.post loop (aU.cut (n:=4) (live:=[0,68,69,70]) (by omega) (by kernel_rfl))) ⟨rfl,rfl⟩
theorem C2:Tr Tryz.prog none 3 nW (CS ex wh (H n1 c1 n2 c2 (n1+(c1-n1)) (n2+(c2-n2)) (pat 1 (n1+(c1-n1))) (pat 2 (n2+(c2-n2)))) [.ro true .u8 (pat 0 10),.ro true .u8 (pat 1 (n1+10)),.ro true .u8 (pat 2 (n2+10))] 2) .normal (CS ex wh (H n1 c1 n2 c2 (n1+(c1-n1)) (n2+(c2-n2)) (pat 1 (n1+(c1-n1))) (pat 2 (n2+(c2-n2)))) [.ro true .u8 (pat 0 10),.ro true .u8 (pat 1 (n1+10)),.ro true .u8 (pat 2 (n2+10))] 3):=by
 have loop:Tr Tryz.prog none 3 (ak 2 pH) (CT ex wh (H n1 c1 n2 c2 (n1+(c1-n1)) (n2+(c2-n2)) (pat 1 (n1+(c1-n1))) (pat 2 (n2+(c2-n2)))) [.ro true .u8 (pat 0 10),.ro true .u8 (pat 1 (n1+10)),.ro true .u8 (pat 2 (n2+10))] 2 (.ro true .u8 (pat 2 (n2+10))) (((n2+10):Nat):Int) 0) .normal (CT ex wh (H n1 c1 n2 c2 (n1+(c1-n1)) (n2+(c2-n2)) (pat 1 (n1+(c1-n1))) (pat 2 (n2+(c2-n2)))) [.ro true .u8 (pat 0 10),.ro true .u8 (pat 1 (n1+10)),.ro true .u8 (pat 2 (n2+10))] 2 (.ro true .u8 (pat 2 (n2+10))) (((n2+10):Nat):Int) (((n2+10):Nat):Int)):=by
  have key:=Tr.loop (P:=Tryz.prog) (ro:=none) (k:=3) 10 (c:=ak 2 pH) (by kernel_rfl) (fun j:Nat=>CT ex wh (H n1 c1 n2 c2 (n1+(c1-n1)) (n2+(c2-n2)) (pat 1 (n1+(c1-n1))) (pat 2 (n2+(c2-n2)))) [.ro true .u8 (pat 0 10),.ro true .u8 (pat 1 (n1+10)),.ro true .u8 (pat 2 (n2+10))] 2 (.ro true .u8 (pat 2 (n2+10))) (((n2+10):Nat):Int) j) (n2+10) (s':=CT ex wh (H n1 c1 n2 c2 (n1+(c1-n1)) (n2+(c2-n2)) (pat 1 (n1+(c1-n1))) (pat 2 (n2+(c2-n2)))) [.ro true .u8 (pat 0 10),.ro true .u8 (pat 1 (n1+10)),.ro true .u8 (pat 2 (n2+10))] 2 (.ro true .u8 (pat 2 (n2+10))) (((n2+10):Nat):Int) (((n2+10):Nat):Int)) (fun j hj=>?_) ?_
  ·exact key
  ·show Tr _ _ _ jv _ _ _
   by_cases h1:j<n2
   ·have e:=IF ex wh n1 c1 n2 c2 (n1+(c1-n1)) (n2+(c2-n2)) (pat 1 (n1+(c1-n1))) (pat 2 (n2+(c2-n2))) (j) ((((n2+10):Nat):Int)) (pat 0 10) (pat 1 (n1+10)) (pat 2 (n2+10))
    rw [Int.toNat_natCast,Nat.zero_add,cm 2 (show j<n2+10 by omega),cm 2 (show j<n2+(c2-n2) by omega),ck,decide_eq_true (show ((j:Int)<((n2+10:Nat):Int)) by omega),aN,bU (ob:=aa true true) rfl hj,decide_eq_true (show ((j:Int)<(n2:Int)) by omega),cN (ob:=aa (aa true (!false)) true) rfl h1 (by omega),bU (ob:=true) rfl hj,bu (by omega) (by omega)] at e
    exact Tr.post (Tr.cut (ah _ _) 60 _ 4 (by omega) e rfl) (aU.same rfl rfl)
   ·have e:=IG ex wh n1 c1 n2 c2 (n1+(c1-n1)) (n2+(c2-n2)) (pat 1 (n1+(c1-n1))) (pat 2 (n2+(c2-n2))) (j) ((((n2+10):Nat):Int)) (pat 0 10) (pat 1 (n1+10)) (pat 2 (n2+10))
    rw [Int.toNat_natCast,cm 2 (show j<n2+10 by omega),ck,decide_eq_true (show ((j:Int)<((n2+10:Nat):Int)) by omega),aN,bU (ob:=aa true true) rfl hj,decide_eq_false (show ¬((j:Int)<(n2:Int)) by omega),bu (by omega) (by omega)] at e
    exact Tr.post (Tr.cut (ah _ _) 60 _ 4 (by omega) e rfl) (aU.same rfl rfl)
  ·show Tr _ _ _ jv _ _ _
   have e:=II ex wh n1 c1 n2 c2 (n1+(c1-n1)) (n2+(c2-n2)) (pat 1 (n1+(c1-n1))) (pat 2 (n2+(c2-n2))) ((((n2+10):Nat):Int)) ((((n2+10):Nat):Int)) (pat 0 10) (pat 1 (n1+10)) (pat 2 (n2+10))
   rw [decide_eq_false (show ¬((((n2+10):Nat):Int)<(((n2+10):Nat):Int)) by omega)] at e
   exact Tr.cut (ah _ _) 60 _ 4 (by omega) e rfl
 refine Tr.aD (aG.items (ah _ _) 60 2 _ 4 (by omega) (zE ex wh n1 c1 n2 c2 (n1+(c1-n1)) (n2+(c2-n2)) (pat 1 (n1+(c1-n1))) (pat 2 (n2+(c2-n2))) (0) (0) (pat 0 10) (pat 1 (n1+10)) (pat 2 (n2+10))) rfl (by decide) ?_)
 refine aG.item 2 (by decide) (s1:=CS ex wh (H n1 c1 n2 c2 (n1+(c1-n1)) (n2+(c2-n2)) (pat 1 (n1+(c1-n1))) (pat 2 (n2+(c2-n2)))) [.ro true .u8 (pat 0 10),.ro true .u8 (pat 1 (n1+10)),.ro true .u8 (pat 2 (n2+10))] 2) ?_ (aG.item 3 (by decide) (s1:=CS ex wh (H n1 c1 n2 c2 (n1+(c1-n1)) (n2+(c2-n2)) (pat 1 (n1+(c1-n1))) (pat 2 (n2+(c2-n2)))) [.ro true .u8 (pat 0 10),.ro true .u8 (pat 1 (n1+10)),.ro true .u8 (pat 2 (n2+10))] 3) (Tr.cut (ah _ _) 60 _ 4 (by omega) (IJ ex wh n1 c1 n2 c2 (n1+(c1-n1)) (n2+(c2-n2)) (pat 1 (n1+(c1-n1))) (pat 2 (n2+(c2-n2))) (0) (0) (pat 0 10) (pat 1 (n1+10)) (pat 2 (n2+10))) rfl) ⟨rfl,rfl⟩)
 rw [N9]
 refine Tr.aQ ?_ (by simp)
 have ea:=IE ex wh n1 c1 n2 c2 (n1+(c1-n1)) (n2+(c2-n2)) (pat 1 (n1+(c1-n1))) (pat 2 (n2+(c2-n2))) (0) (0) (pat 0 10) (pat 1 (n1+10)) (pat 2 (n2+10))
 rw [aN] at ea
 refine Tr.aD (aG.items (ah _ _) 60 2 _ 4 (by omega) ea rfl (by decide) ?_)
 exact aG.item 2 (by decide) (Tr.post loop (aU.cut (n:=4) (live:=[0,68,69,70]) (by omega) (by kernel_rfl))) ⟨rfl,rfl⟩
theorem mb:aj Tryz.prog 17 [.sl 0 0 0 1 3 3 ex wh] (H n1 c1 n2 c2 (n1) (n2) (l1) (l2)) (.bool true) (H n1 c1 n2 c2 (n1+(c1-n1)) (n2+(c2-n2)) (pat 1 (n1+(c1-n1))) (pat 2 (n2+(c2-n2)))):=by
 refine aj.cg (ah f0 g0) 60 8 3 Tryz.func17 (by simp [H]) rfl (fun s' x h=>?_) (s:=CS ex wh (H n1 c1 n2 c2 (n1+(c1-n1)) (n2+(c2-n2)) (pat 1 (n1+(c1-n1))) (pat 2 (n2+(c2-n2)))) [.ro true .u8 (pat 0 10),.ro true .u8 (pat 1 (n1+10)),.ro true .u8 (pat 2 (n2+10))] 3) (p:=true) (by kernel_rfl) rfl rfl rfl
 refine aG.items (ah _ _) 60 2 _ 3 (by show 3≤3;omega) (tG ex wh n1 c1 n2 c2 (n1) (n2) (l1) (l2) (0) (0)) rfl (by decide) ?_
 refine aG.item 2 (by decide) (Tr.jt 0 (by kernel_rfl) (dy.step (W0 ex wh e1 b1 a1 i1 e2 b2 a2 i2) (dy.step (W1 ex wh e1 b1 a1 i1 e2 b2 a2 i2) (dy.step (W2 ex wh e1 b1 a1 i1 e2 b2 a2 i2) (dy.leave (Tr.cut (k:=3) (ah _ _) 60 _ 3 (by omega) (Y1 ex wh n1 c1 n2 c2 (n1) (n2) (pat 1 n1) (pat 2 n2) (0) (0)) rfl) (by simp)))))) ?_
 refine aG.items (ah _ _) 60 2 _ 4 (by show 3≤4;omega) (tH ex wh n1 c1 n2 c2 (n1) (n2) (pat 1 n1) (pat 2 n2) (0) (0)) rfl (by decide) ?_
 rw [List.drop_drop]
 refine aG.item 5 (by decide) (Tr.jt 4 (by kernel_rfl) (dy.step (G0 ex wh e1 b1 a1 i1 e2 b2 a2 i2) (dy.step (G1 ex wh e1 b1 a1 i1 e2 b2 a2 i2) (dy.step (G2 ex wh e1 b1 a1 i1 e2 b2 a2 i2) (dy.leave (Tr.cut (k:=3) (ah _ _) 60 _ 4 (by omega) (Y2 ex wh n1 c1 n2 c2 (n1+(c1-n1)) (n2+(c2-n2)) (pat 1 (n1+(c1-n1))) (pat 2 (n2+(c2-n2))) (0) (0) (pat 0 10) (pat 1 (n1+10)) (pat 2 (n2+10))) rfl) (by simp)))))) ?_
 refine aG.items (ah _ _) 60 1 _ 4 (by show 3≤4;omega) (tJ ex wh n1 c1 n2 c2 (n1+(c1-n1)) (n2+(c2-n2)) (pat 1 (n1+(c1-n1))) (pat 2 (n2+(c2-n2))) (0) (0) (pat 0 10) (pat 1 (n1+10)) (pat 2 (n2+10))) rfl (by decide) ?_
 rw [List.drop_drop]
 exact aG.item 7 (by decide) (Tr.jt 8 (by kernel_rfl) (dy.step (C0 ex wh e1 b1 a1 i1 e2 b2 a2 i2) (dy.step (C1 ex wh e1 b1 a1 i1 e2 b2 a2 i2) (dy.step (C2 ex wh e1 b1 a1 i1 e2 b2 a2 i2) (dy.leave (Tr.cut (k:=3) (ah _ _) 60 _ 4 (by omega) (Y3 ex wh n1 c1 n2 c2 (n1+(c1-n1)) (n2+(c2-n2)) (pat 1 (n1+(c1-n1))) (pat 2 (n2+(c2-n2))) (0) (0) (pat 0 10) (pat 1 (n1+10)) (pat 2 (n2+10))) rfl) (by simp)))))) h
end
end Go.Proofs.YtibfpjeeanppjaaGreat.Bn.Ul
end
section
namespace Go.Proofs.YtibfpjeeanppjaaGreat.Bn
open Go Go.Sy Sh
theorem IL {n0 n1 n2 cp:Nat} {l0 l1 l2:List Int} {ex wh wh0 wh1 wh2:Bool} (e0:l0.length=n0) (e1:l1.length=n1+2) (e2:l2.length=n2+2) (b0:n0<270000000000) (b1:n1<270000000000) (b2:n2<270000000000):
  aj Tryz.prog 17 [.sl 0 0 0 1 3 3 ex wh] [.b [.sl 1 0 0 1 n0 cp false wh0,.sl 2 0 0 1 n1 (n1+2) true wh1,.sl 3 0 0 1 n2 (n2+2) true wh2],.b [.ints .u8 n0 l0],.b [.ints .u8 (n1+2) l1],.b [.ints .u8 (n2+2) l2]] (.bool true) [.b [],.b [],.b [],.b []]:=by
 have e1':(l1.take n1).length=n1:=by rw [List.length_take];omega
 have e2':(l2.take n2).length=n2:=by rw [List.length_take];omega
 refine aj.Y5 (ι:=Nat) (fun c=>Ub.H n0 c n1 (n1+2) n2 (n2+2) n0 n1 n2 l0 (l1.take n1) (l2.take n2)) (fun c=>n0≤c) (fun _=>rfl) (fun B e w R=>?_) (fun c hc=>?_)
 ·obtain ⟨c,hc,R1⟩:=R.aez (b:=0) (pre:=[]) (post:=[.sl 2 0 0 1 n1 (n1+2) true wh1,.sl 3 0 0 1 n2 (n2+2) true wh2]) rfl
  have R2:=R1.same (b:=0) (ps':=[.sl 1 0 0 1 n0 c true true,.sl 2 0 0 1 n1 (n1+2) true true,.sl 3 0 0 1 n2 (n2+2) true true]) rfl (fun ys g=>g) rfl
  exact ⟨c,hc,(R2.shrink (b:=2) (n:=n1) rfl (by omega)).shrink (b:=3) (n:=n2) rfl (by omega)⟩
 ·by_cases q:n0+10≤c
  ·exact aj.IM (Ub.mb ex wh e0 b0 hc q e1' b1 (by omega) (by omega) e2' b2 (by omega) (by omega))
  ·exact aj.IM (Y4.mb ex wh e0 b0 hc (by omega) e1' b1 (by omega) (by omega) e2' b2 (by omega) (by omega))
theorem IN {n1 n2:Nat} {l1 l2:List Int} {ex wh wh1 wh2:Bool} (e1:l1.length=n1+2) (e2:l2.length=n2+2) (b1:n1<270000000000) (b2:n2<270000000000):
  aj Tryz.prog 17 [.sl 0 0 0 1 3 3 ex wh] [.b [.nl (.slice none 0 0),.sl 1 0 0 1 n1 (n1+2) true wh1,.sl 2 0 0 1 n2 (n2+2) true wh2],.b [.ints .u8 (n1+2) l1],.b [.ints .u8 (n2+2) l2]] (.bool true) [.b [],.b [],.b []]:=by
 have e1':(l1.take n1).length=n1:=by rw [List.length_take];omega
 have e2':(l2.take n2).length=n2:=by rw [List.length_take];omega
 refine aj.Y5 (ι:=Unit) (fun _=>Ul.H n1 (n1+2) n2 (n2+2) n1 n2 (l1.take n1) (l2.take n2)) (fun _=>True) (fun _=>rfl) (fun B e w R=>?_) (fun c hc=>?_)
 ·have R2:=R.same (b:=0) (ps':=[.nl (.slice none 0 0),.sl 1 0 0 1 n1 (n1+2) true true,.sl 2 0 0 1 n2 (n2+2) true true]) rfl (fun ys g=>g) rfl
  exact ⟨(),trivial,(R2.shrink (b:=1) (n:=n1) rfl (by omega)).shrink (b:=2) (n:=n2) rfl (by omega)⟩
 ·exact aj.IM (Ul.mb ex wh e1' b1 (by omega) (by omega) e2' b2 (by omega) (by omega))
def Ds:List SV→List Blk→Option (SV×List Blk×Bool)
 | [.sl 0 0 0 1 3 3 _ _],[.b [.sl 1 0 0 1 n0 _ false _,.sl 2 0 0 1 n1 c1 true _,.sl 3 0 0 1 n2 c2 true _],.b [.ints .u8 m0 l0],.b [.ints .u8 m1 l1],.b [.ints .u8 m2 l2]]=>some (.bool (decide (l1.length=n1+2)),[.b [],.b [],.b [],.b []],decide (c1=n1+2)&&decide (c2=n2+2)&&decide (m0=n0)&&decide (m1=n1+2)&&decide (m2=n2+2)&&decide (l0.length=n0)&&decide (l1.length=n1+2)&&decide (l2.length=n2+2)&&decide (n0<270000000000)&&decide (n1<270000000000)&&decide (n2<270000000000))
 | [.sl 0 0 0 1 3 3 _ _],[.b [.nl (.slice none 0 0),.sl 1 0 0 1 n1 c1 true _,.sl 2 0 0 1 n2 c2 true _],.b [.ints .u8 m1 l1],.b [.ints .u8 m2 l2]]=>some (.bool (decide (l1.length=n1+2)),[.b [],.b [],.b []],decide (c1=n1+2)&&decide (c2=n2+2)&&decide (m1=n1+2)&&decide (m2=n2+2)&&decide (l1.length=n1+2)&&decide (l2.length=n2+2)&&decide (n1<270000000000)&&decide (n2<270000000000))
 |_,_=>none
noncomputable def Dt:Entry Tryz.prog:=.mut 17 _ Tryz.func17 (by decide) rfl Hu 0 Ds fun vs h0 v h1 e=>by
 unfold Ds at e
 split at e
 ·simp only [Option.some.injEq,Prod.mk.injEq,Bool.and_eq_true,decide_eq_true_eq] at e
  obtain ⟨rfl,rfl,⟨⟨⟨⟨⟨⟨⟨⟨⟨rfl,rfl⟩,rfl⟩,rfl⟩,rfl⟩,h4⟩,h5⟩,h6⟩,h7⟩,h8⟩,h9⟩:=e
  rw [decide_eq_true h5]
  exact IL h4 h5 h6 h7 h8 h9
 ·simp only [Option.some.injEq,Prod.mk.injEq,Bool.and_eq_true,decide_eq_true_eq] at e
  obtain ⟨rfl,rfl,⟨⟨⟨⟨⟨⟨rfl,rfl⟩,rfl⟩,rfl⟩,h5⟩,h6⟩,h7⟩,h8⟩:=e
  rw [decide_eq_true h5]
  exact IN h5 h6 h7 h8
 ·cases e
noncomputable def IP:Entry Tryz.prog:=.val 11 _ Tryz.func11 (by decide) rfl false 1 RS fun vs v new e=>by
 unfold RS at e
 split at e
 ·simp only [Option.some.injEq,Prod.mk.injEq,decide_eq_true_eq] at e
  obtain ⟨rfl,rfl,h⟩:=e
  exact N5 h
 ·cases e
end Go.Proofs.YtibfpjeeanppjaaGreat.Bn
end
