/- This file proves the contract of the reference's MulAdd (burrowref07): digits of a product and a sum modulo the order. Conditions: bytes within their kind. -/
import Derived.Test.YtailgcdcdhhpnaaPtW
namespace Go.Proofs.Ytailgcdcdhhpnaa
open Go Go.Lift

/-! ### Columns -/
def InB (L : List Int) (B : Int) : Prop := ∀ k, 0 ≤ L.getD k 0 ∧ L.getD k 0 ≤ B
theorem getD_set_ne {S : List Int} {x : Int} {j k : Nat} (h : j ≠ k) : (S.set j x).getD k 0 = S.getD k 0 := by
  simp only [List.getD]; rw [List.getElem?_set_ne h]
theorem vN_set_at {S : List Int} {x : Int} {k : Nat} (hk : k < S.length) : ∀ n, k < n → vN (S.set k x) n = vN S n + 256 ^ k * (x - S.getD k 0)
  | 0, h => by omega
  | n + 1, h => by
    rw [vN, vN]
    by_cases hkn : k = n
    · subst hkn
      rw [vN_set, getD_set hk, Int.mul_sub]; omega
    · rw [vN_set_at hk n (by omega), getD_set_ne hkn]; omega
theorem vN_setLe {S : List Int} {x : Int} {k n : Nat} (h : n ≤ k) : vN (S.set k x) n = vN S n := vN_congr n fun i hi => getD_set_ne (by omega)

def rowR (x : Int) (b L : List Int) (i : Nat) : Nat → List Int
  | 0 => L
  | j + 1 => (rowR x b L i j).set (i + j) ((rowR x b L i j).getD (i + j) 0 + x * b.getD j 0)
def mulR (a b L : List Int) : Nat → List Int
  | 0 => L
  | i + 1 => rowR (a.getD i 0) b (mulR a b L i) i 32

theorem rowR_length (x : Int) (b L : List Int) (i : Nat) : ∀ j, (rowR x b L i j).length = L.length
  | 0 => rfl
  | j + 1 => by rw [rowR, List.length_set, rowR_length x b L i j]
theorem mulR_length (a b L : List Int) : ∀ i, (mulR a b L i).length = L.length
  | 0 => rfl
  | i + 1 => by rw [mulR, rowR_length, mulR_length a b L i]

theorem prod_bound {x y : Int} (hx : 0 ≤ x ∧ x < 256) (hy : 0 ≤ y ∧ y < 256) : 0 ≤ x * y ∧ x * y ≤ 65025 := by
  refine ⟨Int.mul_nonneg hx.1 hy.1, ?_⟩
  have : x * y ≤ 255 * 255 := Int.mul_le_mul (by omega) (by omega) hy.1 (by omega)
  omega
theorem InB.set {L : List Int} {B B' x : Int} {k : Nat} (h : InB L B) (hB : B ≤ B') (hx : 0 ≤ x ∧ x ≤ B') : InB (L.set k x) B' := fun i => by
  by_cases hi : k = i
  · subst hi
    by_cases hl : k < L.length
    · rw [getD_set hl]; exact hx
    · rw [List.set_eq_of_length_le (by omega)]; have := h k; omega
  · rw [getD_set_ne hi]; have := h i; omega
theorem rowR_in {x : Int} {b L : List Int} {i : Nat} {B : Int} (hx : 0 ≤ x ∧ x < 256) (hb : b.all u8 = true) (h : InB L B) : ∀ j : Nat, InB (rowR x b L i j) (B + 65025 * j)
  | 0 => by simpa [rowR] using h
  | j + 1 => by
    have ih := rowR_in (i := i) hx hb h j
    have p := prod_bound hx (getD_u8 hb j)
    have q := ih (i + j)
    rw [rowR]
    exact ih.set (by omega) (by omega)
theorem mulR_in {a b L : List Int} {B : Int} (ha : a.all u8 = true) (hb : b.all u8 = true) (h : InB L B) : ∀ i : Nat, InB (mulR a b L i) (B + 2080800 * i)
  | 0 => by simpa [mulR] using h
  | i + 1 => by
    have ih := rowR_in (i := i) (getD_u8 ha i) hb (mulR_in ha hb h i) 32
    rw [mulR]
    have e : B + 2080800 * (i : Int) + 65025 * ((32 : Nat) : Int) = B + 2080800 * ((i + 1 : Nat) : Int) := by omega
    rwa [e] at ih
theorem rowR_val (x : Int) (b L : List Int) (i : Nat) (hL : L.length = 66) (hi : i < 32) : ∀ j : Nat, j ≤ 32 → vN (rowR x b L i j) 66 = vN L 66 + 256 ^ i * (x * vN b j)
  | 0, _ => by simp [rowR, vN]
  | j + 1, h => by
    have ih := rowR_val x b L i hL hi j (by omega)
    rw [rowR, vN_set_at (by rw [rowR_length, hL]; omega) 66 (by omega), ih, show vN b (j + 1) = vN b j + 256 ^ j * b.getD j 0 from rfl, Int.pow_add]
    have e : (rowR x b L i j).getD (i + j) 0 + x * b.getD j 0 - (rowR x b L i j).getD (i + j) 0 = x * b.getD j 0 := by omega
    rw [e, Int.mul_add x, Int.mul_add (256 ^ i)]
    have e2 : 256 ^ i * 256 ^ j * (x * b.getD j 0) = 256 ^ i * (x * (256 ^ j * b.getD j 0)) := by
      rw [Int.mul_assoc, Int.mul_left_comm (256 ^ j) x]
    omega
theorem mulR_val (a b L : List Int) (hL : L.length = 66) : ∀ i : Nat, i ≤ 32 → vN (mulR a b L i) 66 = vN L 66 + vN a i * vN b 32
  | 0, _ => by simp [mulR, vN]
  | i + 1, h => by
    rw [mulR, rowR_val _ _ _ _ (by rw [mulR_length, hL]) (by omega) 32 (by omega), mulR_val a b L hL i (by omega), show vN a (i + 1) = vN a i + 256 ^ i * a.getD i 0 from rfl, Int.add_mul]
    have : 256 ^ i * (a.getD i 0 * vN b 32) = 256 ^ i * a.getD i 0 * vN b 32 := by rw [Int.mul_assoc]
    omega

/-! ### Carries -/
def carR (L : List Int) : Nat → List Int
  | 0 => L
  | k + 1 => ((carR L k).set (k + 1) ((carR L k).getD (k + 1) 0 + (carR L k).getD k 0 / 256)).set k ((carR L k).getD k 0 % 256)
theorem carR_length (L : List Int) : ∀ k, (carR L k).length = L.length
  | 0 => rfl
  | k + 1 => by rw [carR, List.length_set, List.length_set, carR_length L k]
theorem carR_val (L : List Int) (hL : L.length = 66) : ∀ k : Nat, k ≤ 65 → vN (carR L k) 66 = vN L 66
  | 0, _ => rfl
  | k + 1, h => by
    have hl := carR_length L k
    rw [carR, vN_set_at (by rw [List.length_set]; omega) 66 (by omega), vN_set_at (by omega) 66 (by omega), getD_set_ne (by omega), carR_val L hL k (by omega), Int.pow_succ]
    generalize (carR L k).getD k 0 = d
    generalize (carR L k).getD (k + 1) 0 = d'
    have e1 : d % 256 - d = -256 * (d / 256) := by omega
    have e2 : d' + d / 256 - d' = d / 256 := by omega
    rw [e1, e2]
    have e3 : 256 ^ k * (-256 * (d / 256)) = -(256 ^ k * 256 * (d / 256)) := by rw [Int.neg_mul, Int.mul_neg, Int.mul_assoc]
    omega
/-- What is known ahead of carry k. -/
def CarOK (M : List Int) (k : Nat) (B : Int) : Prop := (∀ i, i < k → 0 ≤ M.getD i 0 ∧ M.getD i 0 < 256) ∧ (0 ≤ M.getD k 0 ∧ M.getD k 0 ≤ 2 * B) ∧ (∀ i, k < i → 0 ≤ M.getD i 0 ∧ M.getD i 0 ≤ B)
theorem carR_ok {L : List Int} (hL : L.length = 66) {B : Int} (hB : 0 ≤ B) (h : InB L B) : ∀ k : Nat, k ≤ 65 → CarOK (carR L k) k B
  | 0, _ => ⟨fun i hi => by omega, by have := h 0; rw [carR]; omega, fun i _ => h i⟩
  | k + 1, hk => by
    obtain ⟨h1, h2, h3⟩ := carR_ok hL hB h k (by omega)
    have hl := carR_length L k
    have h4 := h3 (k + 1) (by omega)
    refine ⟨fun i hi => ?_, ?_, fun i hi => ?_⟩
    · rw [carR]
      by_cases hik : k = i
      · subst hik
        rw [getD_set (by rw [List.length_set]; omega)]
        omega
      · rw [getD_set_ne hik, getD_set_ne (by omega)]
        exact h1 i (by omega)
    · rw [carR, getD_set_ne (by omega), getD_set (by omega)]
      omega
    · rw [carR, getD_set_ne (by omega), getD_set_ne (by omega)]
      exact h3 i (by omega)
theorem val_zeros (l : List Int) : ∀ n, val256 (l ++ List.replicate n 0) = val256 l := by
  intro n
  induction l with
  | nil =>
    induction n with
    | zero => rfl
    | succ n ih => rw [List.nil_append] at ih ⊢; rw [List.replicate_succ]; show 0 + 256 * val256 (List.replicate n 0) = 0; rw [ih]; rfl
  | cons x l ih => rw [List.cons_append, val256, ih, val256]
theorem p66 : (256 : Int) ^ 66 = 256 ^ 65 * 256 := rfl
theorem car_u8 {L : List Int} (hL : L.length = 66) {B : Int} (hB : 0 ≤ B) (h : InB L B) (hv : vN L 66 < 256 ^ 66) : (carR L 65).all u8 = true := by
  obtain ⟨h1, h2, h3⟩ := carR_ok hL hB h 65 (by omega)
  have hl := carR_length L 65
  have hval := carR_val L hL 65 (by omega)
  rw [vN] at hval
  have hlow : 0 ≤ vN (carR L 65) 65 := by
    have : ∀ n, n ≤ 65 → 0 ≤ vN (carR L 65) n := by
      intro n
      induction n with
      | zero => intro _; simp [vN]
      | succ n ih =>
        intro hn
        have := Int.mul_nonneg (Int.le_of_lt (pow256_pos n)) (h1 n (by omega)).1
        have := ih (by omega)
        rw [vN]; omega
    exact this 65 (by omega)
  have htop : (carR L 65).getD 65 0 < 256 := by
    rcases Int.lt_or_le ((carR L 65).getD 65 0) 256 with q | q
    · exact q
    · have := Int.mul_le_mul_of_nonneg_left q (Int.le_of_lt (pow256_pos 65))
      rw [p66] at hv
      omega
  rw [List.all_eq_true]
  intro x hx
  obtain ⟨i, hi, rfl⟩ := List.mem_iff_getElem.1 hx
  have e : (carR L 65)[i] = (carR L 65).getD i 0 := by simp [List.getD, List.getElem?_eq_getElem hi]
  rw [e, u8_iff]
  by_cases hi65 : i = 65
  · subst hi65; exact ⟨h2.1, htop⟩
  · exact h1 i (by omega)

/-! ### The walk -/
theorem maQ_round (a b c L : List Int) (i j : Nat) (ha : a.all u8 = true) (hb : b.all u8 = true) (la : a.length = 32) (lb : b.length = 32) (hi : i < 32) (hj : j < 32) {B : Int} (hL : L.length = 66) (hin : InB L B) (hB : B ≤ 1000000000) :
    Tr Try.prog maQ (maJ a b c i j L) .normal (maJ a b c i ((j + 1 : Nat) : Int) (L.set (i + j) (L.getD (i + j) 0 + a.getD i 0 * b.getD j 0))) := by
  have k := ma_q a b c L i j
  have ra := getD_u8 ha i
  have rb := getD_u8 hb j
  have p := prod_bound ra rb
  have q := hin (i + j)
  have e : IntKind.i64.wrap ((i : Int) + j) = ((i + j : Nat) : Int) := by rw [IntWalk.i64_in _ (by omega)]; omega
  have e1 : IntKind.i64.wrap ((j : Int) + 1) = ((j + 1 : Nat) : Int) := by rw [IntWalk.i64_in _ (by omega)]; omega
  have n1 : 0 + (((i + j : Nat) : Int)).toNat * 1 = i + j := by omega
  have n2 : 0 + (i : Int).toNat * 1 = i := by omega
  have n3 : 0 + (j : Int).toNat * 1 = j := by omega
  rw [e, e1, n1, n2, n3, IntWalk.i64_in (a.getD i 0) (by omega), IntWalk.i64_in (b.getD j 0) (by omega), IntWalk.i64_in (a.getD i 0 * b.getD j 0) (by omega), IntWalk.i64_in (L.getD (i + j) 0 + a.getD i 0 * b.getD j 0) (by omega)] at k
  refine Tr.post (Tr.keep (mk_sound _ _) 60 _ k ?_) (Sub.same rfl rfl)
  exact idxN_iff (by omega) (by omega) (by omega) (idxN_iff (by omega) (by omega) (by omega) (idxN_iff (by omega) (by omega) (by omega) (idxN_iff (by omega) (by omega) (by omega) (by rw [decide_eq_true (by omega)]; rfl))))

theorem atoms_maR : (atoms maR).length = 4 := by kernel_rfl
theorem blk_maR : nthC 2 maR = .block 3 (inner (nthC 2 maR)) := by kernel_rfl
theorem atoms_maR2 : (atoms (inner (nthC 2 maR))).length = 2 := by kernel_rfl
theorem loop_maQ : isLoop 4 (nthC 1 (inner (nthC 2 maR))) = true := by kernel_rfl

theorem maR_round (a b c L : List Int) (i : Nat) (ha : a.all u8 = true) (hb : b.all u8 = true) (la : a.length = 32) (lb : b.length = 32) (hi : i < 32) {B : Int} (hL : L.length = 66) (hin : InB L B) (hB : B ≤ 900000000) :
    Tr Try.prog maR (maS a b c i L) .normal (maS a b c ((i + 1 : Nat) : Int) (rowR (a.getD i 0) b L i 32)) := by
  have k1 := ma_rhead a b c L i
  have k2 := ma_j0 a b c L i
  have k3 := ma_rstep a b c (rowR (a.getD i 0) b L i 32) i
  have e1 : IntKind.i64.wrap ((i : Int) + 1) = ((i + 1 : Nat) : Int) := by rw [IntWalk.i64_in _ (by omega)]; omega
  rw [e1] at k3
  have hloop : Tr Try.prog (nthC 1 (inner (nthC 2 maR))) (maJ a b c i 0 L) .normal (maS a b c i (rowR (a.getD i 0) b L i 32)) := by
    refine Tr.loop 4 loop_maQ (fun j : Nat => maJ a b c i j (rowR (a.getD i 0) b L i j)) 32 (fun j hj => ?_) ?_
    · have hr := rowR_in (i := i) (getD_u8 ha i) hb hin j
      exact maQ_round a b c _ i j ha hb la lb hi hj (by rw [rowR_length, hL]) hr (by omega)
    · have k := ma_qend a b c (rowR (a.getD i 0) b L i 32) i (32 : Nat)
      exact Tr.post (Tr.keep (mk_sound _ _) 60 _ k rfl) (Sub.same rfl rfl)
  have hin2 : Tr Try.prog (nthC 2 maR) (maS a b c i L) .normal (maS a b c i (rowR (a.getD i 0) b L i 32)) := by
    rw [blk_maR]
    refine Tr.block_pass (Tr.of_atoms ?_) (by simp)
    refine TrL.items (mk_sound _ _) 60 1 _ k2 rfl (by rw [atoms_maR2]; omega) (TrL.item 1 (by rw [atoms_maR2]; omega) hloop ?_)
    rw [List.drop_of_length_le (by rw [atoms_maR2]; omega)]
    exact ⟨rfl, rfl⟩
  refine Tr.of_atoms (TrL.items (mk_sound _ _) 60 2 _ k1 ?_ (by rw [atoms_maR]; omega) (TrL.item 2 (by rw [atoms_maR]; omega) (Tr.pre hin2 (Sub.same rfl rfl)) (TrL.item 3 (by rw [atoms_maR]; omega) (Tr.keep (mk_sound _ _) 60 _ k3 rfl) ?_)))
  · change andT true (decide ((i : Int) < 32)) = true
    rw [decide_eq_true (by omega)]; rfl
  · rw [List.drop_of_length_le (by rw [atoms_maR]; omega)]
    exact ⟨rfl, rfl⟩

theorem maL_round (a b c M : List Int) (k : Nat) (hk : k < 65) (hl : M.length = 66) {B : Int} (h : CarOK M k B) (hB : B ≤ 900000000) :
    Tr Try.prog maL (maC a b c k M) .normal (maC a b c ((k + 1 : Nat) : Int) ((M.set (k + 1) (M.getD (k + 1) 0 + M.getD k 0 / 256)).set k (M.getD k 0 % 256))) := by
  have kk := ma_c a b c M k
  obtain ⟨_, h2, h3⟩ := h
  have h4 := h3 (k + 1) (by omega)
  have e1 : IntKind.i64.wrap ((k : Int) + 1) = ((k + 1 : Nat) : Int) := by rw [IntWalk.i64_in _ (by omega)]; omega
  have n1 : 0 + (((k + 1 : Nat) : Int)).toNat * 1 = k + 1 := by omega
  have n2 : 0 + (k : Int).toNat * 1 = k := by omega
  have c1 : carL M k = M.set (k + 1) (M.getD (k + 1) 0 + M.getD k 0 / 256) := by
    unfold carL
    rw [e1, n1, n2, Int.tdiv_eq_ediv_of_nonneg h2.1, IntWalk.i64_in (M.getD k 0 / 256) (by omega), IntWalk.i64_in (M.getD (k + 1) 0 + M.getD k 0 / 256) (by omega)]
  have c2 : (carL M k).length = 66 := by rw [c1, List.length_set, hl]
  rw [e1, n2] at kk
  have c3 : (carL M k).getD k 0 = M.getD k 0 := by rw [c1, getD_set_ne (by omega)]
  rw [c3, Int.tmod_eq_emod_of_nonneg h2.1] at kk
  refine Tr.post (Tr.keep (mk_sound _ _) 60 _ kk ?_) (Sub.same rfl (by show maH _ _ _ _ = maH _ _ _ _; rw [c1]))
  exact idxN_iff (by omega) (by omega) (by omega) (idxN_iff (by omega) (by omega) (by omega) (idxN_iff (by omega) (by omega) (by omega) (idxN_iff (by omega) (by omega) (by omega) (idxN_iff (by omega) (by omega) (by omega) (by rw [decide_eq_true (by omega)]; rfl)))))

/-! ### The call -/
theorem Sub.blks {s s' : St} (h1 : s.t = s'.t) (h2 : s.h.map (fun b => (b.own, b.vals)) = s'.h.map fun b => (b.own, b.vals)) : Lift.Sub s s' where
  tl := by rw [h1]
  t := fun i v e => by rw [h1]; exact e
  hl := by have := congrArg List.length h2; simpa using this.symm
  h := fun i b b' e e' => by
    have := congrArg (·[i]?) h2
    simp only [List.getElem?_map, e, e', Option.map_some, Option.some.injEq, Prod.mk.injEq] at this
    exact ⟨this.1.symm, this.2.symm⟩

theorem FnTr.restE {P : Program} {Γ : Ctr} (hΓ : CtrSound P Γ) (n m : Nat) {fn : Func} {args : List Value} {h : List Blk} {s : St} {v : Value} {p : Bool} (hb : fn.body.isSome = true)
    (ht : ∀ s' x, TrL P ((atoms (bodyOf fn)).drop m) s x s' → TrL P (atoms (bodyOf fn)) ⟨slots0 fn.ntmps args, h, true⟩ x s')
    (e : ((execA P Γ n ((atoms (bodyOf fn)).drop m) s).bind fun r => match r.1 with
      | .ret | .normal => (resS P r.2.t r.2.h fn.results.toList).map fun q => (oneOf q.1, ([] : List Blk), andT r.2.ob q.2)
      | _ => none) = some (v, [], p)) (hp : p = true) : ∃ h', FnTr P fn args h v h' := by
  obtain ⟨⟨x, s'⟩, h1, e⟩ := Option.bind_eq_some_iff.1 e
  subst hp
  have key : ∀ (_ : x = .ret ∨ x = .normal), ((resS P s'.t s'.h fn.results.toList).map fun q => (oneOf q.1, ([] : List Blk), andT s'.ob q.2)) = some (v, [], true) → ∃ h', FnTr P fn args h v h' := fun hx e => by
    obtain ⟨⟨vs, q⟩, hr, e⟩ := Option.map_eq_some_iff.1 e
    simp only [Prod.mk.injEq, andT_iff, true_and] at e
    obtain ⟨rfl, hob, rfl⟩ := e
    exact ⟨_, FnTr.mk hb (ht s' x (TrL.rest hΓ n h1 hob)) hx hr⟩
  cases x <;> simp only at e <;> first | exact key (by simp) e | cases e

noncomputable def maF (a b c : List Int) : List Int := Lock (digN 32 ((val256 a * val256 b + val256 c) % ordL))
theorem maF_length (a b c : List Int) : (maF a b c).length = 32 := by rw [maF, Lock_eq, digN_length]
theorem val_bound {l : List Int} (h : l.all u8 = true) (hl : l.length = 32) : 0 ≤ val256 l ∧ val256 l < 115792089237316195423570985008687907853269984665640564039457584007913129639936 := by
  have := vN_bound h 32
  have e := vN_val l
  rw [hl] at e
  rw [e] at this
  exact this
theorem p66v : (256 : Int) ^ 66 = 878694100496718043517683302282418331810487718418343092402491322775749527474899974671687634004666183037093927858109549828751614463963730408009475621262727315456 := by decide

theorem wrap_bytes {c : List Int} (hc : c.all u8 = true) : c.map IntKind.i64.wrap = c := by
  rw [List.all_eq_true] at hc
  conv => rhs; rw [← List.map_id c]
  apply List.map_congr_left
  intro x hx
  have := hc x hx
  rw [u8_iff] at this
  rw [IntWalk.i64_in _ (by omega), id]

set_option maxRecDepth 100000 in
theorem ma_fn {a b c : List Int} (ha : a.all u8 = true) (hb : b.all u8 = true) (hc : c.all u8 = true) (la : a.length = 32) (lb : b.length = 32) (lc : c.length = 32) :
    ∃ g, FnTr Try.prog Try.f14 [aggI .u8 (lst 32 a), aggI .u8 (lst 32 b), aggI .u8 (lst 32 c)] [] (aggI .u8 (lst 32 (maF a b c))) g := by
  generalize hL0 : c ++ List.replicate 34 (0 : Int) = L0
  have hl0 : L0.length = 66 := by rw [← hL0, List.length_append, lc, List.length_replicate]
  have hin0 : InB L0 255 := fun k => by
    have : L0.all u8 = true := by
      rw [← hL0, List.all_append, hc, Bool.true_and, List.all_eq_true]
      intro x hx
      rw [List.eq_of_mem_replicate hx]; rfl
    have := getD_u8 this k
    omega
  have hv0 : vN L0 66 = val256 c := by rw [← hl0, vN_val, ← hL0, val_zeros]
  have k0 := ma_head a b c
  rw [show (lst 32 c).map IntKind.i64.wrap = c by rw [lst_eq lc]; exact wrap_bytes hc, hL0] at k0
  have hl1 := mulR_length a b L0 32
  have hin1 : InB (mulR a b L0 32) 100000000 := fun k => by have := mulR_in ha hb hin0 32 k; omega
  have hv1 := mulR_val a b L0 hl0 32 (by omega)
  have va := val_bound ha la
  have vb := val_bound hb lb
  have vc := val_bound hc lc
  have ea : vN a 32 = val256 a := by rw [← la, vN_val]
  have eb : vN b 32 = val256 b := by rw [← lb, vN_val]
  rw [ea, eb, hv0] at hv1
  have hprod : val256 a * val256 b ≤ 115792089237316195423570985008687907853269984665640564039457584007913129639935 * 115792089237316195423570985008687907853269984665640564039457584007913129639935 := Int.mul_le_mul (by omega) (by omega) vb.1 (by omega)
  have hprod0 : 0 ≤ val256 a * val256 b := Int.mul_nonneg va.1 vb.1
  have hlt : vN (mulR a b L0 32) 66 < 256 ^ 66 := by rw [hv1, p66v]; omega
  have hu := car_u8 (by rw [hl1, hl0]) (by omega) hin1 hlt
  have hlC := carR_length (mulR a b L0 32) 65
  have hvC := carR_val (mulR a b L0 32) (by rw [hl1, hl0]) 65 (by omega)
  have hval : val256 (carR (mulR a b L0 32) 65) = val256 a * val256 b + val256 c := by
    rw [← vN_val, hlC, hl1, hl0, hvC, hv1]; omega
  have hres : redF (carR (mulR a b L0 32) 65) = maF a b c := by rw [redF, maF, Lock_eq, Lock_eq, hval]
  have k2 := ma_fin a b c (carR (mulR a b L0 32) 65)
  rw [hres] at k2
  have hrows : Tr Try.prog (nthC 5 (bodyOf Try.f14)) (maS a b c 0 L0) .normal ⟨slotsOf 82 maT, maH a b c (mulR a b L0 32), true⟩ := by
    refine Tr.loop 2 (by kernel_rfl) (fun i : Nat => maS a b c i (mulR a b L0 i)) 32 (fun i hi => ?_) ?_
    · have hi0 := mulR_in ha hb hin0 i
      exact maR_round a b c _ i ha hb la lb hi (by rw [mulR_length, hl0]) hi0 (by omega)
    · have k := ma_rend a b c (mulR a b L0 32) (32 : Nat)
      exact Tr.post (Tr.keep (mk_sound _ _) 60 _ k rfl) (Sub.same rfl rfl)
  have hcarry : Tr Try.prog (nthC 7 (bodyOf Try.f14)) (maC a b c 0 (mulR a b L0 32)) .normal ⟨slotsOf 82 maT, maH a b c (carR (mulR a b L0 32) 65), true⟩ := by
    refine Tr.loop 6 (by kernel_rfl) (fun i : Nat => maC a b c i (carR (mulR a b L0 32) i)) 65 (fun i hi => ?_) ?_
    · exact maL_round a b c _ i hi (by rw [carR_length, hl1, hl0]) (carR_ok (by rw [hl1, hl0]) (by omega) hin1 i (by omega)) (by omega)
    · have k := ma_cend a b c (carR (mulR a b L0 32) 65) (65 : Nat)
      exact Tr.post (Tr.keep (mk_sound _ _) 60 _ k rfl) (Sub.same rfl rfl)
  have k6 := ma_c0 a b c (mulR a b L0 32)
  have hsub : Lift.Sub ⟨(maS a b c 0 []).t, [.c (intsV .u8 (lst 32 a)) 24, .c (intsV .u8 (lst 32 b)) 24, .c (intsV .u8 (lst 32 c)) 24, .c (zeros .u8 32) 24, .s .i64 L0 3], true⟩ (maS a b c 0 L0) := by
    refine Sub.blks rfl ?_
    simp only [maS, maH, List.map_cons, List.map_nil, Blk.own, Blk.vals, lst_eq la, lst_eq lb]
  refine FnTr.restE (mk_sound _ _) 60 8 (by decide) (fun s' x h => ?_) k2 ?_
  · exact TrL.items (mk_sound _ _) 60 5 _ k0 rfl (by decide) (TrL.item 5 (by decide) (Tr.pre hrows hsub) (TrL.item 6 (by decide) (Tr.keep (mk_sound _ _) 60 _ k6 rfl) (TrL.item 7 (by decide) hcarry h)))
  · rw [hu, hlC, hl1, hl0]; rfl

noncomputable def maG : List Value → Option (Value × Bool)
  | [.agg ⟨xs⟩, .agg ⟨ys⟩, .agg ⟨zs⟩] => match intsN .u8 32 xs, intsN .u8 32 ys, intsN .u8 32 zs with
    | some a, some b, some c => some (aggI .u8 (lst 32 (maF a b c)), a.all u8 && b.all u8 && c.all u8)
    | _, _, _ => none
  | _ => none

noncomputable def refMulAddE : Entry Try.prog := .val 14 maG fun vs v e h => by
  unfold maG at e
  split at e
  · split at e
    · rename_i xs ys zs a b c hx hy hz
      simp only [Option.some.injEq, Prod.mk.injEq, Bool.and_eq_true] at e
      obtain ⟨rfl, ⟨ha, hb⟩, hc⟩ := e
      obtain ⟨x1, la⟩ := intsN_eq hx
      obtain ⟨y1, lb⟩ := intsN_eq hy
      obtain ⟨z1, lc⟩ := intsN_eq hz
      rw [x1, y1, z1]
      obtain ⟨g, hg⟩ := ma_fn ha hb hc la lb lc
      exact ctr_ro Try.func14 (by decide) hg [] ⟨rfl, fun i b hb => by simp at hb⟩ (LR.plain [aggI .u8 (lst 32 a), aggI .u8 (lst 32 b), aggI .u8 (lst 32 c)] (by simp [plainL, plain_aggI])) (plain_aggI _ _)
    · cases e
  · cases e
end Go.Proofs.Ytailgcdcdhhpnaa
