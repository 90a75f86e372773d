/- This file lays the library's contract of slices.Sort at this program, and says it of tracked blocks. Conditions: at least one number. -/
import Derived.Test.YthlnlcijnoadcaaGreatDoorETtH
import Derived.Shelf.Sort.Plain
set_option linter.all false
namespace Go.Sy
open Go Go.Sort
section
variable {P:Program} {e:Env} {B:Base} {h:List Blk} {w:World}
theorem grow_heap {w:World} {os:Array Obj} {n:Nat} {o:Obj} (q:w.heap[n]? =some o):(grow w os).heap[n]? =some o:=by
 have hlt:=(Array.getElem?_eq_some_iff.1 q).1
 unfold grow
 rw [Array.getElem?_append_left hlt];exact q
theorem grow_old {w:World} {os:Array Obj} {n:Nat} (q:n<w.heap.size):(grow w os).heap[n]? =w.heap[n]? :=by
 unfold grow
 rw [Array.getElem?_append_left q]
theorem Rel.grow (R:Rel B e h w) (os:Array Obj):Rel B e h (Go.Sort.grow w os):={
  os:=R.os,tape:=R.tape,output:=R.output
  size:=by have:=R.size;rw [size_grow];omega
  inj:=R.inj,dom:=R.dom,sep:=R.sep
  zok:=fun n c t fr hz=>grow_heap (R.zok n c t fr hz)
  zfresh:=R.zfresh,glb:=R.glb,news:=R.news,keepr:=R.keepr,keepz:=R.keepz,n0:=R.n0,n0le:=R.n0le
  blk:=fun i ps hi=>(R.blk i ps hi).imp_right fun ⟨p,o,h1,h2,h3⟩=>⟨p,o,h1,grow_heap h2,h3⟩
  gap:=fun i g hi=>⟨(R.gap i g hi).1,(R.gap i g hi).2.keep (fun _ _ q=>grow_heap q) rfl fun _ _ _ _ _ hv=>hv⟩
  yi:=R.yi,yb:=R.yb
  old:=fun n hn hr hl=>by rw [grow_old (Nat.lt_of_lt_of_le hn R.size)];exact R.old n hn hr hl
  win:=fun i p hi=>by obtain ⟨o,o',h1,h2,h3⟩:=R.win i p hi;exact ⟨o,o',h1,grow_heap h2,h3⟩
  kr:=R.kr,kle:=R.kle
  mks:=fun r hr=>⟨grow_heap (R.mks r hr).1,(R.mks r hr).2⟩
  mnd:=R.mnd}
theorem putRow_setRow (w:World) {b off:Nat} {d:Array Int} {c:Array Value} {t:TypeId} {fr:Nat×Nat} (hb:w.heap[b]? =some (.cells c t fr)):putRow (Value.int .i64) w b off d=w.setRow b (putCells (Value.int .i64) off d c):=by
 unfold putRow mapBlock World.setRow
 congr 1
 apply Array.ext_getElem?
 intro k
 rw [Array.getElem?_modify,Array.getElem?_modify]
 by_cases hk:b=k
 ·subst hk;rw [if_pos rfl,if_pos rfl,hb];rfl
 ·rw [if_neg hk,if_neg hk]
theorem Rel.sorted (R:Rel B e h w) {b:Nat} {n:Nat} {xs ys:List Int} (hb:h[b]? =some (.b [.ints .i64 n xs])) (hn:xs.length=n) (hy:ys.length=n) {p:Pl} (hp:e.r b=some p) (q:Nat) (os:Array Obj):
  Rel B e (h.set b (.b [.ints .i64 n ys])) (Go.Sort.grow (putRow (Value.int .i64) (Go.Sort.ahead w q) p.n p.base ys.toArray) os):=by
 rcases R.blk b _ hb with ⟨_,g2⟩|⟨p',o,g1,g2,c,t,rfl,g3,g4,g5⟩
 ·rw [hp] at g2;cases g2
 rw [hp] at g1;cases g1
 have R1:Rel B e h (Go.Sort.ahead w q):=R.drawn _
 have g2':(Go.Sort.ahead w q).heap[p.n]? =some (.cells c t (0,0)):=g2
 rw [putRow_setRow _ g2']
 refine Rel.grow (R1.setBlock hp g2' (by simp [putCells]) (fun j hj=>?_) ?_ ?_) os
 ·simp only [putCells,Array.getElem?_mapIdx]
  cases hc:c[j]? with
  |none=>rfl
  |some v=>
   simp only [Option.map_some]
   rw [if_neg]
   simp only [psize,psz] at g4
   simp only [List.size_toArray,hy]
   omega
 ·simp only [psize,psz] at g4 ⊢;omega
 ·simp only [psize,psz] at g4 ⊢
  refine ⟨[],rfl,?_⟩
  rw [List.append_nil,lst_eq hy]
  apply List.ext_getElem?
  intro j
  rw [List.getElem?_take]
  by_cases hj:j<n
  ·rw [if_pos (by omega),List.getElem?_drop,Array.getElem?_toList]
   simp only [putCells,Array.getElem?_mapIdx]
   rw [Array.getElem?_eq_getElem (show p.base+j<c.size by omega)]
   simp only [Option.map_some,List.size_toArray,hy]
   rw [if_pos (by omega),show p.base+j-p.base=j by omega]
   simp only [intsV,List.getElem?_map]
   rw [List.getElem?_eq_getElem (show j<ys.length by omega)]
   simp [hy,hj]
  ·rw [if_neg (by omega),List.getElem?_eq_none]
   simp [intsV];omega
end
end Go.Sy
namespace Go.Proofs.YthlnlcijnoadcaaGreatDoor.Tr
open Go Go.Sy Go.Shelf Go.Sort
def sortRen:Go.Shelf.Ren:=⟨fun|189=>130|125=>174|257=>173|128=>225|129=>226|294=>217|295=>218|296=>219|297=>220|298=>221|299=>222|216=>201|300=>223|301=>224|328=>252|329=>253|330=>254|331=>255|332=>256|215=>246|343=>274|n=>n,fun|28=>27|3=>3|46=>85|0=>0|51=>176|53=>178|4=>4|183=>275|182=>274|131=>279|5=>5|9=>9|218=>312|222=>316|228=>339|229=>67|n=>n,fun|n=>n⟩
theorem sortLays:Go.Proofs.Lays.n189 Tryz.prog sortRen:={
 mixed:=by kernel_rfl
 f125:=Tryz.func174.trans (congrArg some (by kernel_rfl))
 f128:=Tryz.func225.trans (congrArg some (by kernel_rfl))
 f129:=Tryz.func226.trans (congrArg some (by kernel_rfl))
 f189:=Tryz.func130.trans (congrArg some (by kernel_rfl))
 f215:=Tryz.func246.trans (congrArg some (by kernel_rfl))
 f216:=Tryz.func201.trans (congrArg some (by kernel_rfl))
 f257:=Tryz.func173.trans (congrArg some (by kernel_rfl))
 f294:=Tryz.func217.trans (congrArg some (by kernel_rfl))
 f295:=Tryz.func218.trans (congrArg some (by kernel_rfl))
 f296:=Tryz.func219.trans (congrArg some (by kernel_rfl))
 f297:=Tryz.func220.trans (congrArg some (by kernel_rfl))
 f298:=Tryz.func221.trans (congrArg some (by kernel_rfl))
 f299:=Tryz.func222.trans (congrArg some (by kernel_rfl))
 f300:=Tryz.func223.trans (congrArg some (by kernel_rfl))
 f301:=Tryz.func224.trans (congrArg some (by kernel_rfl))
 f328:=Tryz.func252.trans (congrArg some (by kernel_rfl))
 f329:=Tryz.func253.trans (congrArg some (by kernel_rfl))
 f330:=Tryz.func254.trans (congrArg some (by kernel_rfl))
 f331:=Tryz.func255.trans (congrArg some (by kernel_rfl))
 f332:=Tryz.func256.trans (congrArg some (by kernel_rfl))
 f343:=Tryz.func274.trans (congrArg some (by kernel_rfl))
 t0:=Tryz.underlying0
 a0:=Tryz.isAgg0
 z0:=Tryz.sizeOf0
 v0:=Tryz.zeroValue0
 t3:=Tryz.underlying3
 a3:=Tryz.isAgg3
 z3:=Tryz.sizeOf3
 v3:=Tryz.zeroValue3
 t4:=Tryz.underlying4
 a4:=Tryz.isAgg4
 z4:=Tryz.sizeOf4
 v4:=Tryz.zeroValue4
 t5:=Tryz.underlying5
 a5:=Tryz.isAgg5
 z5:=Tryz.sizeOf5
 v5:=Tryz.zeroValue5
 t9:=Tryz.underlying9
 a9:=Tryz.isAgg9
 z9:=Tryz.sizeOf9
 v9:=Tryz.zeroValue9
 t28:=Tryz.underlying27
 a28:=Tryz.isAgg27
 z28:=Tryz.sizeOf27
 v28:=Tryz.zeroValue27
 t46:=Tryz.underlying85
 a46:=Tryz.isAgg85
 z46:=Tryz.sizeOf85
 v46:=Tryz.zeroValue85
 t51:=Tryz.underlying176
 a51:=Tryz.isAgg176
 z51:=Tryz.sizeOf176
 v51:=Tryz.zeroValue176
 t53:=Tryz.underlying178
 a53:=Tryz.isAgg178
 z53:=Tryz.sizeOf178
 v53:=Tryz.zeroValue178
 t131:=Tryz.underlying279
 a131:=Tryz.isAgg279
 z131:=Tryz.sizeOf279
 v131:=Tryz.zeroValue279
 t182:=Tryz.underlying274
 a182:=Tryz.isAgg274
 z182:=Tryz.sizeOf274
 v182:=Tryz.zeroValue274
 t183:=Tryz.underlying275
 a183:=Tryz.isAgg275
 z183:=Tryz.sizeOf275
 v183:=Tryz.zeroValue275
 t218:=Tryz.underlying312
 a218:=Tryz.isAgg312
 z218:=Tryz.sizeOf312
 v218:=Tryz.zeroValue312
 t222:=Tryz.underlying316
 a222:=Tryz.isAgg316
 z222:=Tryz.sizeOf316
 v222:=Tryz.zeroValue316
 t228:=Tryz.underlying339
 a228:=Tryz.isAgg339
 z228:=Tryz.sizeOf339
 v228:=Tryz.zeroValue339
 t229:=Tryz.underlying67
 a229:=Tryz.isAgg67
 z229:=Tryz.sizeOf67
 v229:=Tryz.zeroValue67}
noncomputable def sortL (xs:List Int):List Int:=Lock (xs.mergeSort fun x y=>decide (x≤y))
theorem sortL_len (xs:List Int):(sortL xs).length=xs.length:=by unfold sortL;rw [Lock_eq];exact List.length_mergeSort xs
theorem sort_fn {xs:List Int} {n cap:Nat} {ex wh:Bool} (hl:xs.length=n) (h0:0<n) (h1:n≤274877906944):
  FnTr Tryz.prog 130 [.sl 0 0 0 1 n cap ex wh] [.b [.ints .i64 n xs]] (.tup []) [.b [.ints .i64 n (sortL xs)]]:=by
 intro B e w args' hB hargs R
 obtain ⟨v,zs,hv,hz,rfl⟩:=hargs
 rw [LR] at hz
 subst hz
 rcases hv with ⟨q,_⟩|⟨p,cap',a,g1,rfl,g2,g3,_,g5,g6⟩
 ·omega
 have ha:a=p.base:=by have:=g2 (by omega);omega
 subst ha
 have g6:=g6 (by omega)
 rcases R.blk 0 _ rfl with ⟨_,q⟩|⟨p',o,q1,q2,c,t,rfl,q3,q4,q5⟩
 ·rw [g1] at q;cases q
 rw [g1] at q1
 cases q1
 obtain ⟨us,q6,q7⟩:=q5
 rw [PR] at q6
 subst q6
 rw [List.append_nil,lst_eq hl] at q7
 simp only [psize,psz] at q7 q4
 have hcell:∀j,j<n→c.toList[p.base+j]? =some (.int .i64 (xs.getD j 0)):=fun j hj=>by
  have r:=congrArg (fun l=>l[j]?) q7
  simp only [List.getElem?_take,List.getElem?_drop] at r
  rw [if_pos (by omega)] at r
  rw [r,intsV_get (by omega)]
 have hH:Holds (Value.int .i64) w p.n p.base xs.toArray:=fun j hj=>by
  have hj':j<n:=by simpa [hl] using hj
  refine ⟨?_,by unfold World.frozen?;rw [q2];simp⟩
  rw [cell_of q2 (hcell j hj')]
  congr 2
  rw [getElem!_pos _ j hj]
  simp [List.getD,List.getElem?_eq_getElem (show j<xs.length by omega)]
 have key:=Any.slices_Sort_int sortLays p.n p.base cap' xs w hH (Array.getElem?_eq_some_iff.1 q2).1 (by omega)
 rw [hl] at key
 refine key.mono fun en w' ⟨he,q,os,hw⟩=>?_
 subst he
 subst hw
 refine ⟨_,rfl,e,rfl,⟨[],rfl,rfl⟩,?_⟩
 have:=R.sorted (b:=0) (ys:=sortL xs) rfl hl (by rw [sortL_len];exact hl) g1 q os
 unfold sortL at this
 rw [Lock_eq] at this
 unfold sortL
 rw [Lock_eq]
 exact this
def pick0:List SV→List Blk→List Nat
 | [.sl b _ _ _ _ _ _ _],_=>[b]
 |_,_=>[]
end Go.Proofs.YthlnlcijnoadcaaGreatDoor.Tr
