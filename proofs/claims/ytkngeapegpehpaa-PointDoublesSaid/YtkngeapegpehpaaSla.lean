import Derived.Test.YtkngeapegpehpaaTy
import Derived.Test.YtkngeapegpehpaaEngP
namespace Go.Proofs.Ytkngeapegpehpaa.W
open Go Go.Eng Go.Byt
set_option linter.unusedVariables false
set_option linter.unusedSimpArgs false
theorem eqb_len {xs ys : List UInt8} (h : (xs.length : Int) ≠ ys.length) : decide (xs = ys) = false := decide_eq_false (fun e => h (by rw [e]))
theorem eqb_el {xs ys : List UInt8} {i : Int} (h : gb xs i ≠ gb ys i) : decide (xs = ys) = false := decide_eq_false (fun e => h (by rw [e]))
theorem eqb_all {xs ys : List UInt8} {i : Int} (hl : ¬ (xs.length : Int) ≠ ys.length) (h : ∀ j : Nat, (j : Int) < i → xs.getD j 0 = ys.getD j 0) (hi : ¬ i < xs.length) : decide (xs = ys) = true := by
  refine decide_eq_true (List.ext_getElem (by omega) (fun j h1 h2 => ?_))
  have := h j (by omega)
  rw [List.getD_eq_getElem?_getD, List.getD_eq_getElem?_getD, List.getElem?_eq_getElem h1, List.getElem?_eq_getElem h2] at this
  exact this
theorem eqb_step {xs ys : List UInt8} {i : Int} (h0 : 0 ≤ i) (h : ∀ j : Nat, (j : Int) < i → xs.getD j 0 = ys.getD j 0) (he : ¬ gb xs i ≠ gb ys i) : ∀ j : Nat, (j : Int) < i + 1 → xs.getD j 0 = ys.getD j 0 := by
  intro j hj
  by_cases hji : (j : Int) < i
  · exact h j hji
  · have e : i.toNat = j := by omega
    have he := Decidable.of_not_not he
    unfold gb at he; rw [e] at he
    exact UInt8.toNat_inj.1 (by omega)
set_option maxRecDepth 100000 in
set_option maxHeartbeats 1000000 in
theorem equal_any (u v : Value) (xs ys : List UInt8) (w : World) (hu : RdB w u xs) (hv : RdB w v ys) : Rets Try.prog 34 [u, v] w (fun r w' => r = .bool (decide (xs = ys)) ∧ Keep [] w w') := by
  have hB : Keep [] w w := Keep.refl _ _
  have hle := hu.le
  refine rets_of_tw Try.func34 rfl (by decide) Try.ntmps34 rfl (fun fin _ hfin => ?_)
  refine tw_seq ?_
  refine tw_region ?_
  refine ow_g (g_as rfl) rfl ?_
  refine ow_nil ?_
  refine tw_seq ?_
  refine tw_seq ?_
  refine tw_region ?_
  refine ow_g (g_mv rfl) rfl ?_
  refine ow_g (g_len Try.underlying22 rfl (by first | assumption | exact Own.rd (by assumption) | exact Rd.keep0 (by assumption) hB | exact Own.rd (Own.keep0 (by assumption) hB))) rfl ?_
  refine ow_g (g_mv rfl) rfl ?_
  refine ow_g (g_len Try.underlying22 rfl (by first | assumption | exact Own.rd (by assumption) | exact Rd.keep0 (by assumption) hB | exact Own.rd (Own.keep0 (by assumption) hB))) rfl ?_
  refine ow_g (g_ne rfl rfl) rfl ?_
  refine ow_nil ?_
  refine tw_if rfl (fun hc1 => ?_) (fun hc1 => ?_)
  · -- yes
    refine tw_seq ?_
    refine tw_region ?_
    refine ow_g (g_as rfl) rfl ?_
    refine ow_nil ?_
    refine tw_ret1 hfin Try.results34 rfl ?_
    first
    | (exact ⟨by rw [eqb_len hc1], hB⟩)
    | (exact ⟨by rw [eqb_el hc1], hB⟩)
    | (exact ⟨by rw [eqb_all hc1 hall hc1], hB⟩)
  · -- no
    refine tw_skip ?_
    refine tw_seq ?_
    refine tw_seq ?_
    refine tw_region ?_
    refine ow_g (g_mv rfl) rfl ?_
    refine ow_g (g_len Try.underlying22 rfl (by first | assumption | exact Own.rd (by assumption) | exact Rd.keep0 (by assumption) hB | exact Own.rd (Own.keep0 (by assumption) hB))) rfl ?_
    refine ow_g (g_mv rfl) rfl ?_
    refine ow_nil ?_
    refine tw_block ?_
    refine tw_loop (Γ := Int) (fun i => [(0, u), (1, v), (12, .int .i64 (xs.length : Int)), (13, .int .i64 i)]) (fun i W => 0 ≤ i ∧ i ≤ xs.length ∧ (∀ j : Nat, (j : Int) < i → xs.getD j 0 = ys.getD j 0) ∧ Keep [] w W) (fun i => (xs.length - i).toNat) 0 ⟨rfl, rfl, rfl, rfl, trivial⟩ (⟨by decide, by omega, fun j h => by omega, hB⟩) ?_
    rintro i w1 ⟨hi0, hi1, hall, hB⟩
    refine tw_keep [(0, u), (1, v), (12, .int .i64 (xs.length : Int)), (13, .int .i64 i)] ⟨rfl, rfl, rfl, rfl, trivial⟩ ?_
    refine tw_seq ?_
    refine tw_region ?_
    refine ow_g (g_lt rfl rfl) rfl ?_
    refine ow_nil ?_
    refine tw_seq ?_
    refine tw_if rfl (fun hc2 => ?_) (fun hc2 => ?_)
    · -- yes
      refine tw_skip ?_
      refine tw_seq ?_
      refine tw_block ?_
      refine tw_seq ?_
      refine tw_region ?_
      refine ow_g (g_mv rfl) rfl ?_
      refine ow_g (g_as rfl) rfl ?_
      refine ow_nil ?_
      refine tw_seq ?_
      refine tw_stillA mixed (by decide +kernel) (fun w2 k1 => ?_)
      have z_k1 := k1.size
      replace hB := hB.trans k1
      refine sw_g (g_mv rfl) rfl ?_
      refine sw_g (g_mv rfl) rfl ?_
      refine sw_g (g_ix Try.underlying22 ty5 rfl (by first | assumption | exact Own.rd (by assumption) | exact Rd.keep0 (by assumption) hB | exact Own.rd (Own.keep0 (by assumption) hB)) rfl (by omega)) rfl ?_
      refine sw_g (g_ldB sc5 rfl (by first | assumption | exact Own.rd (by assumption) | exact Rd.keep0 (by assumption) hB | exact Own.rd (Own.keep0 (by assumption) hB)) (by omega)) rfl ?_
      refine sw_g (g_mv rfl) rfl ?_
      refine sw_g (g_mv rfl) rfl ?_
      refine sw_g (g_ix Try.underlying22 ty5 rfl (by first | assumption | exact Own.rd (by assumption) | exact Rd.keep0 (by assumption) hB | exact Own.rd (Own.keep0 (by assumption) hB)) rfl (by omega)) rfl ?_
      refine sw_g (g_ldB sc5 rfl (by first | assumption | exact Own.rd (by assumption) | exact Rd.keep0 (by assumption) hB | exact Own.rd (Own.keep0 (by assumption) hB)) (by omega)) rfl ?_
      refine sw_g (g_ne rfl rfl) rfl ?_
      refine sw_nil ?_
      refine ow_nil ?_
      refine tw_if rfl (fun hc3 => ?_) (fun hc3 => ?_)
      · -- yes
        refine tw_seq ?_
        refine tw_region ?_
        refine ow_g (g_as rfl) rfl ?_
        refine ow_nil ?_
        refine tw_ret1 hfin Try.results34 rfl ?_
        first
        | (exact ⟨by rw [eqb_len hc1], hB⟩)
        | (exact ⟨by rw [eqb_el hc3], hB⟩)
        | (exact ⟨by rw [eqb_all hc1 hall hc3], hB⟩)
      · -- no
        refine tw_skip ?_
        refine tw_b ?_
        refine tw_region ?_
        refine ow_g (g_add rfl rfl (by omega)) rfl ?_
        refine ow_g (g_mv rfl) rfl ?_
        refine ow_nil ?_
        refine tw_inv (Γ := Int) (i + 1) ⟨rfl, rfl, rfl, rfl, trivial⟩ (by (try dsimp only); omega) (⟨by omega, by omega, eqb_step hi0 hall hc3, hB⟩)
    · -- no
      refine tw_exit rfl ?_
      refine tw_seq ?_
      refine tw_region ?_
      refine ow_g (g_as rfl) rfl ?_
      refine ow_nil ?_
      refine tw_ret1 hfin Try.results34 rfl ?_
      first
      | (exact ⟨by rw [eqb_len hc1], hB⟩)
      | (exact ⟨by rw [eqb_el hc2], hB⟩)
      | (exact ⟨by rw [eqb_all hc1 hall hc2], hB⟩)

set_option maxRecDepth 100000 in
set_option maxHeartbeats 1000000 in
theorem clone_any (v : Value) (xs : List UInt8) (w : World) (hv : RdB w v xs) (hx : xs.length ≤ 140737488355328) : Rets Try.prog 32 [v] w (fun u w' => OwnB w' w.heap.size u xs ∧ Keep [] w w' ∧ isNil u = isNil v) := by
  have hB : Keep [] w w := Keep.refl _ _
  have hn0 : isNil v = true → xs = [] := by
    obtain ⟨A, c, rfl, h1, h2, h3, h4, h5⟩ := hv
    intro h
    cases A with
    | none => have := h4 rfl; exact List.eq_nil_of_length_eq_zero (by omega)
    | some a => cases h
  refine rets_of_tw Try.func32 rfl (by decide) Try.ntmps32 rfl (fun fin _ hfin => ?_)
  refine tw_seq ?_
  refine tw_region ?_
  refine ow_g (g_as rfl) rfl ?_
  refine ow_nil ?_
  refine tw_seq ?_
  refine tw_seq ?_
  refine tw_region ?_
  refine ow_g (g_mv rfl) rfl ?_
  refine ow_g (g_nilS Try.underlying22 rfl (by first | assumption | exact Own.rd (by assumption) | exact Rd.keep0 (by assumption) hB | exact Own.rd (Own.keep0 (by assumption) hB))) rfl ?_
  refine ow_nil ?_
  refine tw_cond rfl (fun hc1 => ?_) (fun hc1 => ?_)
  · -- yes
    have hd1 := hc1
    try (simp only [Bool.and_eq_true, Bool.or_eq_true, decide_eq_true_eq, Bool.and_eq_false_iff, Bool.or_eq_false_iff, decide_eq_false_iff_not, Bool.not_eq_true', Bool.not_eq_false', Bool.not_eq_true, Bool.not_eq_false, ne_eq, Decidable.not_not, decide_true, decide_false, Bool.true_and, Bool.false_and, Bool.or_false, Bool.false_or, not_true_eq_false, false_or, or_false, true_and, and_true, not_false_eq_true, reduceCtorEq] at hd1)
    refine tw_seq ?_
    refine tw_region ?_
    refine ow_g (g_as rfl) rfl ?_
    refine ow_nil ?_
    refine tw_ret1 hfin Try.results32 rfl ?_
    first
    | (have h0 : xs = [] := hn0 (by assumption)
       subst h0; exact ⟨own_nil _ _ _ _, hB, (by show true = _; exact Eq.symm (by assumption))⟩)
    | exact ⟨by simpa using o2, hB, by simp [*]⟩
  · -- no
    have hd2 := hc1
    try (simp only [Bool.and_eq_true, Bool.or_eq_true, decide_eq_true_eq, Bool.and_eq_false_iff, Bool.or_eq_false_iff, decide_eq_false_iff_not, Bool.not_eq_true', Bool.not_eq_false', Bool.not_eq_true, Bool.not_eq_false, ne_eq, Decidable.not_not, decide_true, decide_false, Bool.true_and, Bool.false_and, Bool.or_false, Bool.false_or, not_true_eq_false, false_or, or_false, true_and, and_true, not_false_eq_true, reduceCtorEq] at hd2)
    refine tw_skip ?_
    refine tw_seq ?_
    refine tw_region ?_
    refine ow_d (d_bs (m := 0) (xs := []) (vs := []) Try.underlying22 ty5 (by decide) rfl rfl rfl (by first | (simp; done) | (intro v hv; rw [List.mem_singleton] at hv; subst hv; rfl)) (by decide)) rfl ?_
    rintro v1 w1 ⟨o1, nn1, lb1, k1, z1⟩
    have z_k1 := k1.size
    replace hB := hB.trans k1
    have u_o1 := o1.blk
    replace o1 : Own w1 _ _ 1 v1 0 (bv []) := o1
    refine ow_g (g_mv rfl) rfl ?_
    refine ow_d (d_appB  Try.underlying22 ty5 rfl (by first | assumption | exact own_nil _ _ _ _) rfl (by first | assumption | exact Own.rd (by assumption) | exact Rd.keep0 (by assumption) hB | exact Own.rd (Own.keep0 (by assumption) hB)) (by first | omega | (simp only [bv_length, List.length_append, Int.toNat_natCast] at *; omega)) (by have := hB.size; omega)) rfl ?_
    rintro v2 w2 ⟨o2, k2, lb2, nn2⟩
    have z_k2 := k2.size
    replace hB := hB.new k2 (fun x hx => .inl (o1.blk x hx).1)
    have u_o2 := fun x hx => (lb2 x hx).elim (fun h => Or.inl (u_o1 x h)) (fun h => Or.inr (And.intro h (o2.blk x hx).2))
    refine ow_g (g_as rfl) rfl ?_
    refine ow_nil ?_
    refine tw_ret1 hfin Try.results32 rfl ?_
    first
    | (have h0 : xs = [] := hn0 (by assumption)
       subst h0; exact ⟨own_nil _ _ _ _, hB, (by show true = _; exact Eq.symm (by assumption))⟩)
    | exact ⟨by simpa using o2, hB, by simp [*]⟩

theorem mx_start (xs : List UInt8) : gb xs 0 = 0 ↔ ∀ j : Nat, (j : Int) < 1 → gb xs j = 0 := by
  refine ⟨fun h j hj => ?_, fun h => h 0 (by decide)⟩
  obtain rfl : j = 0 := by omega
  exact h
set_option maxRecDepth 100000 in
set_option maxHeartbeats 1000000 in
theorem max_any (v : Value) (xs : List UInt8) (w : World) (hv : RdB w v xs) (hx : 0 < xs.length) : Rets Try.prog 42 [v] w (fun r w' => ∃ m, r = .int .u8 m ∧ (m = 0 ↔ ∀ j : Nat, (j : Int) < xs.length → gb xs j = 0) ∧ Keep [] w w') := by
  have hB : Keep [] w w := Keep.refl _ _
  have hle := hv.le
  refine rets_of_tw Try.func42 rfl (by decide) Try.ntmps42 rfl (fun fin _ hfin => ?_)
  refine tw_seq ?_
  refine tw_region ?_
  refine ow_g (g_as rfl) rfl ?_
  refine ow_nil ?_
  refine tw_seq ?_
  refine tw_seq ?_
  refine tw_region ?_
  refine ow_g (g_mv rfl) rfl ?_
  refine ow_g (g_len Try.underlying22 rfl (by first | assumption | exact Own.rd (by assumption) | exact Rd.keep0 (by assumption) hB | exact Own.rd (Own.keep0 (by assumption) hB))) rfl ?_
  refine ow_g (g_lt rfl rfl) rfl ?_
  refine ow_nil ?_
  refine tw_ifF rfl (by omega) ?_
  refine tw_skip ?_
  refine tw_seq ?_
  refine tw_region ?_
  refine ow_g (g_mv rfl) rfl ?_
  refine ow_g (g_ix Try.underlying22 ty5 rfl (by first | assumption | exact Own.rd (by assumption) | exact Rd.keep0 (by assumption) hB | exact Own.rd (Own.keep0 (by assumption) hB)) rfl (by omega)) rfl ?_
  refine ow_g (g_ldB sc5 rfl (by first | assumption | exact Own.rd (by assumption) | exact Rd.keep0 (by assumption) hB | exact Own.rd (Own.keep0 (by assumption) hB)) (by omega)) rfl ?_
  refine ow_g (g_as rfl) rfl ?_
  refine ow_nil ?_
  refine tw_seq ?_
  refine tw_seq ?_
  refine tw_region ?_
  refine ow_g (g_as rfl) rfl ?_
  refine ow_nil ?_
  refine tw_block ?_
  refine tw_loop (Γ := Int × Int) (fun ⟨i, m⟩ => [(0, v), (3, .int .u8 m), (4, .int .i64 i)]) (fun ⟨i, m⟩ W => 1 ≤ i ∧ i ≤ xs.length ∧ 0 ≤ m ∧ (m = 0 ↔ ∀ j : Nat, (j : Int) < i → gb xs j = 0) ∧ Keep [] w W) (fun ⟨i, m⟩ => (xs.length - i).toNat) ⟨1, gb xs 0⟩ ⟨rfl, rfl, rfl, trivial⟩ (⟨by decide, by omega, (gb_range xs 0).1, mx_start xs, hB⟩) ?_
  rintro ⟨i, m⟩ w1 ⟨hi0, hi1, hm, hall, hB⟩
  refine tw_keep [(0, v), (3, .int .u8 m), (4, .int .i64 i)] ⟨rfl, rfl, rfl, trivial⟩ ?_
  refine tw_seq ?_
  refine tw_seq ?_
  refine tw_region ?_
  refine ow_g (g_mv rfl) rfl ?_
  refine ow_g (g_mv rfl) rfl ?_
  refine ow_g (g_len Try.underlying22 rfl (by first | assumption | exact Own.rd (by assumption) | exact Rd.keep0 (by assumption) hB | exact Own.rd (Own.keep0 (by assumption) hB))) rfl ?_
  refine ow_g (g_lt rfl rfl) rfl ?_
  refine ow_nil ?_
  refine tw_if rfl (fun hc1 => ?_) (fun hc1 => ?_)
  · -- yes
    refine tw_skip ?_
    refine tw_seq ?_
    refine tw_block ?_
    refine tw_region ?_
    refine ow_g (g_mv rfl) rfl ?_
    refine ow_g (g_mv rfl) rfl ?_
    refine ow_g (g_mv rfl) rfl ?_
    refine ow_g (g_ix Try.underlying22 ty5 rfl (by first | assumption | exact Own.rd (by assumption) | exact Rd.keep0 (by assumption) hB | exact Own.rd (Own.keep0 (by assumption) hB)) rfl (by omega)) rfl ?_
    refine ow_g (g_ldB sc5 rfl (by first | assumption | exact Own.rd (by assumption) | exact Rd.keep0 (by assumption) hB | exact Own.rd (Own.keep0 (by assumption) hB)) (by omega)) rfl ?_
    refine ow_g (g_max rfl rfl) rfl ?_
    refine ow_g (g_as rfl) rfl ?_
    refine ow_nil ?_
    refine tw_b ?_
    refine tw_region ?_
    refine ow_g (g_mv rfl) rfl ?_
    refine ow_g (g_add rfl rfl (by omega)) rfl ?_
    refine ow_g (g_as rfl) rfl ?_
    refine ow_nil ?_
    refine tw_inv (Γ := Int × Int) ⟨i + 1, _⟩ ⟨rfl, rfl, rfl, trivial⟩ (by (try dsimp only); omega) (⟨by omega, by omega, (mx_step hm (by omega) hall).1, (mx_step hm (by omega) hall).2, hB⟩)
  · -- no
    refine tw_exit rfl ?_
    refine tw_seq ?_
    refine tw_region ?_
    refine ow_g (g_mv rfl) rfl ?_
    refine ow_g (g_as rfl) rfl ?_
    refine ow_nil ?_
    refine tw_ret1 hfin Try.results42 rfl ?_
    exact ⟨m, rfl, (show i = xs.length by omega) ▸ hall, hB⟩

end Go.Proofs.Ytkngeapegpehpaa.W
