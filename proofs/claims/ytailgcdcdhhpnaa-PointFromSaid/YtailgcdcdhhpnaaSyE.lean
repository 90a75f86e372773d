/- This file proves the operations that change no memory sound: comparing, aggregates, addresses, slices, lengths, assertions. Conditions: those of the interpreter's own tests. -/
import Derived.Test.YtailgcdcdhhpnaaSyD
import Derived.Laws.Closers25b
namespace Go.Sy
open Go

section
variable {P : Program} {e : Env} {w : World}

theorem strL_eq {s t : ByteArray} : (strL s = strL t) ↔ s = t := by
  constructor
  · intro h
    have h1 : s.data.toList = t.data.toList := by
      unfold strL at h
      have key : ∀ (a b : List UInt8), (a.map fun x => (x.toNat : Int)) = (b.map fun x => (x.toNat : Int)) → a = b := by
        intro a
        induction a with
        | nil => intro b hb; cases b <;> simp_all
        | cons x xs ih =>
          intro b hb
          cases b with
          | nil => simp at hb
          | cons y ys =>
            simp only [List.map_cons, List.cons.injEq] at hb
            have hxy : x = y := UInt8.toNat.inj (by omega)
            rw [hxy, ih ys hb.2]
      exact key _ _ h
    cases s; cases t
    congr
    exact Array.ext' h1
  · rintro rfl; rfl

theorem eqIn_bool {d : Nat} {T : TypeId} {a b : Bool} (hu : P.underlying T = some .bool) : (Op.equalIn (d + 1) T (.bool a) (.bool b)).run P w = .ok (a == b) w := by simp [Op.equalIn, run_underlying hu]
theorem eqIn_ptr {d : Nat} {T el : TypeId} {a : Addr} (hu : P.underlying T = some (.pointer el)) : (Op.equalIn (d + 1) T (.pointer (some a)) (.pointer none)).run P w = .ok false w := by simp [Op.equalIn, run_underlying hu]
theorem eqIn_nilPtr {d : Nat} {T el : TypeId} (hu : P.underlying T = some (.pointer el)) : (Op.equalIn (d + 1) T (.pointer none) (.pointer none)).run P w = .ok true w := by simp [Op.equalIn, run_underlying hu]
theorem eqIn_nils {d : Nat} {T : TypeId} {ms} (hu : P.underlying T = some (.interface ms)) : (Op.equalIn (d + 1) T .nilIface .nilIface).run P w = .ok true w := by simp [Op.equalIn, run_underlying hu]
theorem eqIn_nilR {d : Nat} {T t : TypeId} {v : Value} {ms} (hu : P.underlying T = some (.interface ms)) : (Op.equalIn (d + 1) T (.iface t v) .nilIface).run P w = .ok false w := by simp [Op.equalIn, run_underlying hu]
theorem eqIn_nilL {d : Nat} {T t : TypeId} {v : Value} {ms} (hu : P.underlying T = some (.interface ms)) : (Op.equalIn (d + 1) T .nilIface (.iface t v)).run P w = .ok false w := by simp [Op.equalIn, run_underlying hu]
theorem eqIn_errs {d : Nat} {T t : TypeId} {k k0 : IntKind} {a b : Int} {ms i} (hu : P.underlying T = some (.interface ms)) (hu2 : P.underlying t = some (.int k0)) (hi : P.info? t = some i) (hc : i.comparable = true) :
    (Op.equalIn (d + 1 + 1) T (.iface t (.int k a)) (.iface t (.int k b))).run P w = .ok (a == b) w := by
  have h1 : (Op.equalIn (d + 1) t (.int k a) (.int k b)).run P w = .ok (a == b) w := by simp [Op.equalIn, run_underlying hu2]
  rw [Op.equalIn]
  simp [run_underlying hu, typeInfo, hi, hc, h1]

theorem eqS_sound {op : BinOp} {T : TypeId} {x y : Operand} {a b v : SV} {a' b' : Value} (h : eqS P op T x y a b = some (v, true)) (ha : VR e a a') (hb : VR e b b') :
    ∃ v', (do eqGuard op T x y a' b'; binOp op T a' b' : Sem Value).run P w = .ok v' w ∧ VR e v v' := by
  unfold eqS at h
  split at h
  · -- aggregates
    rename_i cs ds
    split at h
    · cases h
    · rename_i hg
      split at h
      · rename_i k n hf
        split at h
        · rename_i l p m q hl hm
          split at h
          · rename_i hn
            obtain ⟨u, hu, h2⟩ := Option.map_eq_some_iff.1 h
            simp only [Prod.mk.injEq, andT_iff] at h2
            obtain ⟨rfl, rfl, rfl⟩ := h2
            obtain ⟨ys, hys, rfl⟩ := ha.agg_of
            obtain ⟨zs, hzs, rfl⟩ := hb.agg_of
            obtain ⟨rfl, hln⟩ := flatI_sound hl hys
            obtain ⟨rfl, hmn⟩ := flatI_sound hm hzs
            simp only [Bool.or_eq_true, beq_iff_eq, not_or, Bool.not_eq_true] at hg
            refine eq_run hu (run_eqGuard_agg (P := P) w op T x y ⟨intsV k l⟩ ⟨intsV k m⟩ hg.1) (fun op' ho => by rcases ho with rfl | rfl <;> rfl) ?_
            have := equal_flat 20 T k n hf 10000 (by omega) l m (by omega) (by omega) w
            have hv : ∀ z : List Int, flatV P T k z = aggI k z := fun z => by
              unfold flatV
              split
              · rename_i h1; exact absurd h1 hg.2
              · rfl
            rwa [hv, hv] at this
          · cases h
        · cases h
      · cases h
  · -- bools
    rename_i a b
    rw [VR] at ha hb; subst ha hb
    split at h
    · rename_i hu
      obtain ⟨u, hu', h2⟩ := Option.map_eq_some_iff.1 h
      simp only [Prod.mk.injEq, and_true] at h2; subst h2
      exact eq_run hu' (by unfold eqGuard; split <;> simp) (fun op' ho => by rcases ho with rfl | rfl <;> rfl) (eqIn_bool (d := 9999) hu)
    · cases h
  · -- strings
    rename_i a b
    obtain ⟨s, rfl, rfl⟩ := ha
    obtain ⟨t, rfl, rfl⟩ := hb
    obtain ⟨u, hu', h2⟩ := Option.map_eq_some_iff.1 h
    simp only [Prod.mk.injEq, and_true] at h2; subst h2
    have hg : (eqGuard op T x y (.string s) (.string t)).run P w = .ok () w := by unfold eqGuard; split <;> simp
    have hd : decide (strL s = strL t) = (s.toList == t.toList) := by
      rw [Bool.eq_iff_iff, decide_eq_true_eq, strL_eq, beq_iff_eq]
      constructor
      · rintro rfl; rfl
      · intro h
        rw [ByteArray.toList_eq, ByteArray.toList_eq] at h
        cases s; cases t; congr; exact Array.ext' h
    rcases boolOp_cases hu' with ⟨rfl, rfl⟩ | ⟨rfl, rfl⟩
    · exact ⟨_, by rw [Sem.run_bind, hg, Result.andThen_ok]; rfl, by rw [hd]; rfl⟩
    · exact ⟨_, by rw [Sem.run_bind, hg, Result.andThen_ok]; rfl, by rw [hd]; rfl⟩
  · -- an address, nil
    obtain ⟨p, _, rfl⟩ := ha
    rw [VR] at hb; subst hb
    split at h
    · rename_i hu
      obtain ⟨u, hu', h2⟩ := Option.map_eq_some_iff.1 h
      simp only [Prod.mk.injEq, and_true] at h2; subst h2
      exact eq_run hu' (by unfold eqGuard; split <;> simp) (fun op' ho => by rcases ho with rfl | rfl <;> rfl) (eqIn_ptr (d := 9999) hu)
    · cases h
  · rw [VR] at ha hb; subst ha hb
    split at h
    · rename_i hu
      obtain ⟨u, hu', h2⟩ := Option.map_eq_some_iff.1 h
      simp only [Prod.mk.injEq, and_true] at h2; subst h2
      exact eq_run hu' (by unfold eqGuard; split <;> simp) (fun op' ho => by rcases ho with rfl | rfl <;> rfl) (eqIn_nilPtr (d := 9999) hu)
    · cases h
  · -- two nils
    rw [VR] at ha hb; subst ha hb
    have hg : ∀ z : Value, (x = .const z ∨ y = .const z) → (eqGuard op T x y .nilIface .nilIface).run P w = .ok () w := fun z hz => by
      unfold eqGuard
      rcases hz with rfl | rfl <;> split <;> simp
    split at h
    · rename_i hu
      obtain ⟨u, hu', h2⟩ := Option.map_eq_some_iff.1 h
      simp only [Prod.mk.injEq, and_true] at h2; subst h2
      exact eq_run hu' (hg _ (.inl rfl)) (fun op' ho => by rcases ho with rfl | rfl <;> rfl) (eqIn_nils (d := 9999) hu)
    · rename_i hu _
      obtain ⟨u, hu', h2⟩ := Option.map_eq_some_iff.1 h
      simp only [Prod.mk.injEq, and_true] at h2; subst h2
      exact eq_run hu' (hg _ (.inr rfl)) (fun op' ho => by rcases ho with rfl | rfl <;> rfl) (eqIn_nils (d := 9999) hu)
    · cases h
  · obtain ⟨z, _, rfl⟩ := ha
    rw [VR] at hb; subst hb
    split at h
    · rename_i hu
      obtain ⟨u, hu', h2⟩ := Option.map_eq_some_iff.1 h
      simp only [Prod.mk.injEq, and_true] at h2; subst h2
      exact eq_run hu' (by unfold eqGuard; split <;> simp) (fun op' ho => by rcases ho with rfl | rfl <;> rfl) (eqIn_nilR (d := 9999) hu)
    · cases h
  · obtain ⟨z, _, rfl⟩ := hb
    rw [VR] at ha; subst ha
    split at h
    · rename_i hu
      obtain ⟨u, hu', h2⟩ := Option.map_eq_some_iff.1 h
      simp only [Prod.mk.injEq, and_true] at h2; subst h2
      exact eq_run hu' (by unfold eqGuard; split <;> simp) (fun op' ho => by rcases ho with rfl | rfl <;> rfl) (eqIn_nilL (d := 9999) hu)
    · cases h
  · rename_i t k a t' k' b
    obtain ⟨z, hz, rfl⟩ := ha
    obtain ⟨z', hz', rfl⟩ := hb
    rw [VR] at hz hz'; subst hz hz'
    split at h
    · rename_i hu hu2
      split at h
      · rename_i hcmp
        split at h
        · rename_i htk
          obtain ⟨rfl, rfl⟩ := htk
          obtain ⟨u, hu', h2⟩ := Option.map_eq_some_iff.1 h
          simp only [Prod.mk.injEq, and_true] at h2; subst h2
          obtain ⟨i, hi, hic⟩ := Option.map_eq_some_iff.1 hcmp
          exact eq_run hu' (by unfold eqGuard; split <;> simp) (fun op' ho => by rcases ho with rfl | rfl <;> rfl) (eqIn_errs (d := 9998) hu hu2 hi hic)
        · cases h
      · cases h
    · cases h
  · cases h

theorem unS_sound {op : UnOp} {a v : SV} {a' : Value} (h : unS op a = some v) (ha : VR e a a') : ∃ v', (Op.unary op a').run P w = .ok v' w ∧ VR e v v' := by
  unfold unS at h
  split at h
  · cases h; rw [VR] at ha; subst ha; exact ⟨_, by simp [Op.unary, Op.intArith], rfl⟩
  · cases h; rw [VR] at ha; subst ha; exact ⟨_, by simp [Op.unary, Op.intBits, xorI, bitsI], rfl⟩
  · cases h; rw [VR] at ha; subst ha; exact ⟨_, by simp [Op.unary], rfl⟩
  · cases h

theorem convS_sound {src dst : TypeId} {a v : SV} {a' : Value} (h : convS P src dst a = some v) (ha : VR e a a') : ∃ v', (convert src dst a').run P w = .ok v' w ∧ VR e v v' := by
  unfold convS at h
  split at h
  · rename_i k n
    rw [VR] at ha; subst ha
    split at h
    · rename_i s k' hs hd
      cases h
      refine ⟨_, ?_, rfl⟩
      simp [convert, run_underlying hs, run_underlying hd, Conv.intToInt]
    · cases h
  · rename_i xs
    obtain ⟨s, rfl, rfl⟩ := ha
    split at h
    · rename_i hs hd
      cases h
      exact ⟨_, by simp [convert, run_underlying hs, run_underlying hd], s, rfl, rfl⟩
    · cases h
  · cases h

/-! ### Parts of aggregates -/
theorem partS_sound {t : TypeId} {ps : List SV} {ys : List Value} {o i : Nat} {v : SV} (h : partS P t ps o i = some (v, true)) (hl : PR e ps ys) :
    ∃ v', (part t ⟨ys⟩ (o + i)).run P w = .ok v' w ∧ VR e v v' := by
  unfold partS at h
  split at h
  · rename_i hagg
    split at h
    · rename_i n hn
      obtain ⟨q, h1, h2⟩ := Option.map_eq_some_iff.1 h
      simp only [Prod.mk.injEq, and_true] at h2; subst h2
      obtain ⟨h3, h4⟩ := subP_sound h1 hl
      exact ⟨.agg ⟨(ys.drop o).take n⟩, by simp [part, aggB_run hagg, szOf_run hn, List.extract_eq_take_drop], _, h3, rfl⟩
    · cases h
  · rename_i hagg
    obtain ⟨y, hy, hv⟩ := cellP_sound h hl
    refine ⟨y, ?_, hv⟩
    simp only [part, Sem.run_bind, aggB_run hagg, Result.andThen_ok]
    have hlt := (List.getElem?_eq_some_iff.1 hy).1
    have : ys[o + i] = y := (List.getElem?_eq_some_iff.1 hy).2
    simp [hlt, this]
  · cases h

theorem fieldS_sound {t : TypeId} {i : Nat} {a v : SV} {a' : Value} (h : fieldS P t i a = some (v, true)) (ha : VR e a a') : ∃ v', (Instr.field t a' i).run P w = .ok v' w ∧ VR e v v' := by
  unfold fieldS at h
  split at h
  · rename_i ps
    obtain ⟨ys, hys, rfl⟩ := ha.agg_of
    split at h
    · rename_i fs hu
      split at h
      · rename_i f hf
        obtain ⟨v', hr, hv⟩ := partS_sound (w := w) h hys
        refine ⟨v', ?_, hv⟩
        have hf' : fs[i]? = some f := by simpa using hf
        simp only [Instr.field, Sem.run_bind, run_underlying hu, Result.andThen_ok, hf']
        simpa [asAgg] using hr
      · cases h
    · cases h
  · cases h

theorem fieldPlace_run {a : Addr} {f : Field} {z : Nat} (hz : szOf P f.type = some (z + 1)) : (fieldPlace a f).run P w = .ok (a.add f.offset) w := by
  simp [fieldPlace, szOf_run hz]

theorem fieldAddrS_sound {t : TypeId} {i : Nat} {a v : SV} {a' : Value} (h : fieldAddrS P t i a = some v) (ha : VR e a a') : ∃ v', (Instr.fieldAt t a' i).run P w = .ok v' w ∧ VR e v v' := by
  unfold fieldAddrS at h
  split at h
  · rename_i fs hu
    split at h
    · rename_i f hf
      have hf' : fs[i]? = some f := by simpa using hf
      split at h
      · rename_i z hz
        split at h
        · rename_i b o j
          cases h
          obtain ⟨p, hp, rfl⟩ := ha
          refine ⟨.pointer (some ⟨p.n, p.base + (o + f.offset + j), none⟩), ?_, p, hp, rfl⟩
          simp only [Instr.fieldAt, Sem.run_bind, run_underlying hu, Result.andThen_ok, hf', Instr.sureAddr, Sem.run_pure, fieldPlace_run hz, addr_add]
          rw [show p.base + (o + j) + f.offset = p.base + (o + f.offset + j) by omega]
        · rename_i f0 z0 len c el o j
          cases h
          obtain ⟨n, o0, c, t', fr, rfl, h2, h3, h4⟩ := ha
          refine ⟨.pointer (some ⟨n, o0 + el * z0 + (o + f.offset + j), none⟩), ?_, n, o0, c, t', fr, rfl, h2, h3, h4⟩
          simp only [Instr.fieldAt, Sem.run_bind, run_underlying hu, Result.andThen_ok, hf', Instr.sureAddr, Sem.run_pure, fieldPlace_run hz, addr_add]
          rw [show o0 + el * z0 + (o + j) + f.offset = o0 + el * z0 + (o + f.offset + j) by omega]
        · cases h
      · cases h
    · cases h
  · cases h

theorem inB_iff {i : Int} {n : Nat} : inB i n = true ↔ 0 ≤ i ∧ i < n := by simp [inB]

theorem VR.sl_at {b o i z len cap : Nat} {ex wh : Bool} {a' : Value} {ix : Int} (ha : VR e (.sl b o i z len cap ex wh) a') (hb : inB ix len = true) :
    ∃ p cap', e.r b = some p ∧ a' = .slice (some ⟨p.n, p.base + (o + i * z), none⟩) len cap' := by
  rw [inB_iff] at hb
  rcases ha with ⟨h1, _⟩ | ⟨p, cap', a, hp, h1, h2, _, _, h3, _⟩
  · omega
  · have := h2 (by omega)
    subst this
    exact ⟨p, cap', hp, h1⟩

theorem indexAt_slice {t el : TypeId} {n len cap : Nat} {x : Addr} {k : IntKind} {ix : Int} {z : Nat} (hu : P.underlying t = some (.slice el)) (hz : szOf P el = some z) (hb : inB ix len = true) (hx : x = ⟨n, x.off, none⟩) :
    (Instr.indexAt t (.slice (some x) len cap) (.int k ix)).run P w = .ok (.pointer (some ⟨n, x.off + ix.toNat * z, none⟩)) w := by
  rw [inB_iff] at hb
  have h1 : x.add (ix.toNat * z) = ⟨n, x.off + ix.toNat * z, none⟩ := by
    have := addr_add n x.off (ix.toNat * z)
    rwa [← hx] at this
  simp [Instr.indexAt, asIntOf, run_underlying hu, hb, szOf_run hz, h1]
theorem indexAt_array {t el : TypeId} {n len o : Nat} {k : IntKind} {ix : Int} {z : Nat} (hu : P.underlying t = some (.array len el)) (hz : szOf P el = some z) (hb : inB ix len = true) :
    (Instr.indexAt t (.pointer (some ⟨n, o, none⟩)) (.int k ix)).run P w = .ok (.pointer (some ⟨n, o + ix.toNat * z, none⟩)) w := by
  rw [inB_iff] at hb
  simp [Instr.indexAt, asIntOf, run_underlying hu, hb, szOf_run hz, addr_add, Instr.sureAddr]

theorem indexAddrS_sound {t : TypeId} {a ix v : SV} {a' ix' : Value} (h : indexAddrS P t a ix = some (v, true)) (ha : VR e a a') (hi : VR e ix ix') :
    ∃ v', (Instr.indexAt t a' ix').run P w = .ok v' w ∧ VR e v v' := by
  unfold indexAddrS at h
  split at h
  · rename_i k i
    rw [VR] at hi; subst hi
    split at h
    · rename_i len el b o j hu
      obtain ⟨p, hp, rfl⟩ := ha
      split at h
      · rename_i hz
        simp only [Option.some.injEq, Prod.mk.injEq] at h
        obtain ⟨rfl, hb⟩ := h
        exact ⟨_, indexAt_array hu hz hb, p, hp, by congr 3; omega⟩
      · rename_i n _ hz
        simp only [Option.some.injEq, Prod.mk.injEq] at h
        obtain ⟨rfl, hb⟩ := h
        exact ⟨_, indexAt_array hu hz hb, p, hp, by congr 3; omega⟩
      · cases h
    · rename_i len el f z l c e0 o j hu
      obtain ⟨n, o0, c, t', fr, rfl, h2, h3, h4⟩ := ha
      split at h
      · rename_i hz
        simp only [Option.some.injEq, Prod.mk.injEq] at h
        obtain ⟨rfl, hb⟩ := h
        exact ⟨_, indexAt_array hu hz hb, n, o0, c, t', fr, by congr 3; omega, h2, h3, h4⟩
      · rename_i m _ hz
        simp only [Option.some.injEq, Prod.mk.injEq] at h
        obtain ⟨rfl, hb⟩ := h
        exact ⟨_, indexAt_array hu hz hb, n, o0, c, t', fr, by congr 3; omega, h2, h3, h4⟩
      · cases h
    · rename_i el b o j len cap ex wh hu
      split at h
      · rename_i hz
        split at h
        · simp only [Option.some.injEq, Prod.mk.injEq] at h
          obtain ⟨rfl, hb⟩ := h
          obtain ⟨p, cap', hp, rfl⟩ := ha.sl_at hb
          exact ⟨_, indexAt_slice (n := p.n) hu hz hb rfl, p, hp, by simp only []; congr 3; omega⟩
        · simp only [Option.some.injEq, Prod.mk.injEq] at h
          obtain ⟨rfl, hb⟩ := h
          obtain ⟨p, cap', hp, rfl⟩ := ha.sl_at hb
          exact ⟨_, indexAt_slice (n := p.n) hu hz hb rfl, p, hp, by simp only []; congr 3; omega⟩
      · cases h
    · rename_i el b o j z len cap ex wh hne hu
      split at h
      · rename_i n hz
        split at h
        · rename_i hnz
          subst hnz
          simp only [Option.some.injEq, Prod.mk.injEq] at h
          obtain ⟨rfl, hb⟩ := h
          obtain ⟨p, cap', hp, rfl⟩ := ha.sl_at hb
          refine ⟨_, indexAt_slice (n := p.n) hu hz hb rfl, p, hp, ?_⟩
          simp only []; congr 3; rw [Nat.add_mul]; omega
        · cases h
      · cases h
    · rename_i el f k' xs hu
      split at h
      · rename_i hz
        simp only [Option.some.injEq, Prod.mk.injEq] at h
        obtain ⟨rfl, hb⟩ := h
        have hb' := inB_iff.1 hb
        rcases ha with ⟨h1, _⟩ | ⟨n, o, cap, c, t', fr, rfl, h2, _, h3, _⟩
        · subst h1; simp at hb'; omega
        · exact ⟨_, indexAt_slice (n := n) hu hz hb rfl, n, o, c, t', fr, by simp, h2, h3⟩
      · cases h
    · rename_i el f xss hu
      split at h
      · rename_i hz
        simp only [Option.some.injEq, Prod.mk.injEq] at h
        obtain ⟨rfl, hb⟩ := h
        have hb' := inB_iff.1 hb
        rcases ha with ⟨h1, _⟩ | ⟨n, o, cap, c, t', fr, rfl, h2, _, h3, _⟩
        · subst h1; simp at hb'; omega
        · exact ⟨_, indexAt_slice (n := n) hu hz hb rfl, n, o, c, t', fr, by simp, h2, h3⟩
      · cases h
    · rename_i el f z len g hu
      split at h
      · rename_i n0 hz
        split at h
        · rename_i hnz
          subst hnz
          simp only [Option.some.injEq, Prod.mk.injEq] at h
          obtain ⟨rfl, hb⟩ := h
          have hb' := inB_iff.1 hb
          rcases ha with ⟨h1, _⟩ | ⟨n, o, cap, c, t', fr, rfl, h2, _, h3, h4, h5⟩
          · omega
          · have hle := Nat.mul_le_mul_right n0 h4
            exact ⟨_, indexAt_slice (n := n) hu hz hb rfl, n, o, c, t', fr, by simp, h2, h3, by omega⟩
        · cases h
      · cases h
    · cases h
  · cases h

theorem indexS_sound {t : TypeId} {a ix v : SV} {a' ix' : Value} (h : indexS P t a ix = some (v, true)) (ha : VR e a a') (hi : VR e ix ix') : ∃ v', (Instr.index t a' ix').run P w = .ok v' w ∧ VR e v v' := by
  unfold indexS at h
  split at h
  · rename_i k i ps
    rw [VR] at hi; subst hi
    obtain ⟨ys, hys, rfl⟩ := ha.agg_of
    split at h
    · rename_i len el hu
      split at h
      · rename_i k' hk hz
        obtain ⟨⟨q1, q2⟩, h1, h2⟩ := Option.map_eq_some_iff.1 h
        simp only [Prod.mk.injEq, Bool.and_eq_true] at h2
        obtain ⟨rfl, rfl, hb⟩ := h2
        rw [inB_iff] at hb
        have hagg : aggB P el = some false := by simp [aggB, isInt_eq hk]
        obtain ⟨v', hr, hv⟩ := partS_sound (P := P) (w := w) (t := el) (o := 0) (i := i.toNat) (v := q1) (by simp only [partS, hagg]; exact h1) hys
        refine ⟨v', ?_, hv⟩
        simp [Instr.index, asIntOf, run_underlying hu, hb, szOf_run hz]
        simpa using hr
      · rename_i n hk hz
        obtain ⟨⟨q1, q2⟩, h1, h2⟩ := Option.map_eq_some_iff.1 h
        simp only [Prod.mk.injEq, Bool.and_eq_true] at h2
        obtain ⟨rfl, rfl, hb⟩ := h2
        rw [inB_iff] at hb
        obtain ⟨v', hr, hv⟩ := partS_sound (w := w) h1 hys
        refine ⟨v', ?_, hv⟩
        simp [Instr.index, asIntOf, run_underlying hu, hb, szOf_run hz]
        simpa using hr
      · cases h
    · cases h
  · rename_i k i xs
    rw [VR] at hi; subst hi
    obtain ⟨s, rfl, rfl⟩ := ha
    split at h
    · rename_i hu
      simp only [Option.some.injEq, Prod.mk.injEq] at h
      obtain ⟨rfl, hb⟩ := h
      rw [inB_iff] at hb
      have hlen : (strL s).length = s.size := by unfold strL; rw [List.length_map, Array.length_toList]; rfl
      have hlt : i.toNat < s.size := by omega
      refine ⟨.int .u8 (s[i.toNat]).toNat, ?_, ?_⟩
      · have h1 : (if 0 ≤ i then s[i.toNat]? else none) = some (s[i.toNat]) := by rw [if_pos hb.1, getElem?_pos s i.toNat hlt]
        unfold Instr.index
        rw [Sem.run_bind, show (asIntOf (.int k i) : Sem (IntKind × Int)) = pure (k, i) from rfl, Sem.run_pure, Result.andThen_ok]
        simp only []
        rw [Sem.run_bind, run_underlying hu, Result.andThen_ok]
        simp only [h1]
        rfl
      · have h3 : i.toNat < s.data.toList.length := by simpa using hlt
        have : (strL s).getD i.toNat 0 = ((s[i.toNat]).toNat : Int) := by
          rw [strL, List.getD, List.getElem?_map, List.getElem?_eq_getElem h3]
          rfl
        rw [this]; rfl
    · cases h
  · cases h
end
end Go.Sy
