import Derived.Test.YtdbfpmkilchilaaCod
namespace Go.Proofs.Ytdbfpmkilchilaa.W
open Go Go.Eng Go.Byt
set_option linter.unusedVariables false
set_option linter.unusedSimpArgs false
set_option maxRecDepth 100000 in
theorem clone_any (v : Value) (xs : List UInt8) (w : World) (hv : RdB w v xs) (hx : xs.length ≤ 140737488355328) : Rets Try.prog 101 [v] w (fun u w' => OwnB w' w.heap.size u xs ∧ Keep [] w w' ∧ isNil u = isNil v) := by
  have hB : Keep [] w w := Keep.refl _ _
  have hn0 : isNil v = true → xs = [] := by
    obtain ⟨A, c, rfl, h1, h2, h3, h4, h5⟩ := hv
    intro h
    cases A with
    | none => have := h4 rfl; exact List.eq_nil_of_length_eq_zero (by omega)
    | some a => cases h
  refine rets_of_tw Try.func101 rfl (by decide) Try.ntmps101 rfl (fun fin _ hfin => ?_)
  refine tw_seq ?_
  refine tw_region ?_
  refine ow_g (g_as rfl) rfl ?_
  refine ow_nil ?_
  refine tw_seq ?_
  refine tw_seq ?_
  refine tw_region ?_
  refine ow_g (g_mv rfl) rfl ?_
  refine ow_g (g_nilS Try.underlying22 rfl (by first | assumption | exact Own.rd (by assumption) | exact Rd.keep0 (by assumption) hB | exact Own.rd (Own.keep0 (by assumption) hB))) rfl ?_
  refine ow_nil ?_
  refine tw_cond rfl (fun hc1 => ?_) (fun hc1 => ?_)
  · -- yes
    have hd1 := hc1
    try (simp only [Bool.and_eq_true, Bool.or_eq_true, decide_eq_true_eq, Bool.and_eq_false_iff, Bool.or_eq_false_iff, decide_eq_false_iff_not, Bool.not_eq_true', Bool.not_eq_false', Bool.not_eq_true, Bool.not_eq_false, ne_eq, Decidable.not_not] at hd1)
    refine tw_seq ?_
    refine tw_region ?_
    refine ow_g (g_as rfl) rfl ?_
    refine ow_nil ?_
    refine tw_ret1 hfin Try.results101 rfl ?_
    first
    | (have h0 : xs = [] := hn0 (by assumption)
       subst h0; exact ⟨own_nil _ _ _ _, hB, (by show true = _; exact Eq.symm (by assumption))⟩)
    | exact ⟨by simpa using o2, hB, by simp [*]⟩
  · -- no
    have hd2 := hc1
    try (simp only [Bool.and_eq_true, Bool.or_eq_true, decide_eq_true_eq, Bool.and_eq_false_iff, Bool.or_eq_false_iff, decide_eq_false_iff_not, Bool.not_eq_true', Bool.not_eq_false', Bool.not_eq_true, Bool.not_eq_false, ne_eq, Decidable.not_not] at hd2)
    refine tw_skip ?_
    refine tw_seq ?_
    refine tw_region ?_
    refine ow_d (d_bs (m := 0) (xs := []) (vs := []) Try.underlying22 ty5 (by decide) rfl rfl rfl (by simp) (by decide)) rfl ?_
    rintro v1 w1 ⟨o1, nn1, lb1, k1, z1⟩
    have z_k1 := k1.size
    replace hB := hB.trans k1
    have u_o1 := o1.blk
    replace o1 : Own w1 _ _ 1 v1 0 (bv []) := o1
    refine ow_g (g_mv rfl) rfl ?_
    refine ow_d (d_appB  Try.underlying22 ty5 rfl (by first | assumption | exact own_nil _ _ _ _) rfl (by first | assumption | exact Own.rd (by assumption) | exact Rd.keep0 (by assumption) hB | exact Own.rd (Own.keep0 (by assumption) hB)) (by first | omega | (simp only [bv_length, List.length_append, Int.toNat_natCast] at *; omega)) (by have := hB.size; omega)) rfl ?_
    rintro v2 w2 ⟨o2, k2, lb2, nn2⟩
    replace hB := hB.new k2 (fun x hx => .inl (o1.blk x hx).1)
    have u_o2 := fun x hx => (lb2 x hx).elim (fun h => Or.inl (u_o1 x h)) (fun h => Or.inr (And.intro h (o2.blk x hx).2))
    refine ow_g (g_as rfl) rfl ?_
    refine ow_nil ?_
    refine tw_ret1 hfin Try.results101 rfl ?_
    first
    | (have h0 : xs = [] := hn0 (by assumption)
       subst h0; exact ⟨own_nil _ _ _ _, hB, (by show true = _; exact Eq.symm (by assumption))⟩)
    | exact ⟨by simpa using o2, hB, by simp [*]⟩

set_option maxRecDepth 100000 in
theorem grow_nil (n : Int) (w : World) (hn : 0 ≤ n ∧ n ≤ 140737488355328) : Rets Try.prog 137 [.slice none 0 0, .int .i64 n] w (fun u w' => OwnB w' w.heap.size u [] ∧ Keep [] w w') := by
  have hB : Keep [] w w := Keep.refl _ _
  refine rets_of_tw Try.func137 rfl (by decide) Try.ntmps137 rfl (fun fin _ hfin => ?_)
  refine tw_seq ?_
  refine tw_region ?_
  refine ow_g (g_as rfl) rfl ?_
  refine ow_nil ?_
  refine tw_seq ?_
  refine tw_seq ?_
  refine tw_region ?_
  refine ow_g (g_mv rfl) rfl ?_
  refine ow_g (g_lt rfl rfl) rfl ?_
  refine ow_nil ?_
  refine tw_ifF rfl (by omega) ?_
  refine tw_skip ?_
  refine tw_seq ?_
  refine tw_seq ?_
  refine tw_region ?_
  refine ow_g (g_mv rfl) rfl ?_
  refine ow_g (g_mv rfl) rfl ?_
  refine ow_g (g_fold (j := 0) (g_cap Try.underlying22 rfl (Rd.nil w 1)) rfl) rfl ?_
  refine ow_g (g_mv rfl) rfl ?_
  refine ow_g (g_len Try.underlying22 rfl (Rd.nil w 1)) rfl ?_
  refine ow_g (g_sub rfl rfl (by omega)) rfl ?_
  refine ow_g (g_sub rfl rfl (by omega)) rfl ?_
  refine ow_g (g_as rfl) rfl ?_
  refine ow_nil ?_
  refine tw_seq ?_
  refine tw_region ?_
  refine ow_g (g_mv rfl) rfl ?_
  refine ow_g (g_gt rfl rfl) rfl ?_
  refine ow_nil ?_
  refine tw_if rfl (fun hc1 => ?_) (fun hc1 => ?_)
  · -- yes
    refine tw_region ?_
    refine ow_g (g_mv rfl) rfl ?_
    refine ow_g (g_mv rfl) rfl ?_
    refine ow_g (g_fold (j := 0) (g_cap Try.underlying22 rfl (Rd.nil w 1)) rfl) rfl ?_
    refine ow_g (v := .slice none 0 0) (g_sl (l := 0) (h := 0) Try.underlying22 ty5 rfl (Rd.nil w 1) (.inl ⟨rfl, rfl⟩) (.inr ⟨_, _, rfl, rfl⟩) ⟨by decide, by decide, by decide⟩) rfl ?_
    refine ow_g (g_mv rfl) rfl ?_
    refine ow_d (d_appZ Try.underlying22 Try.underlying3 ty5 rfl rfl (by omega) (by constructor <;> omega)) rfl ?_
    rintro v1 w1 ⟨o1, nn1, lb1, k1⟩
    replace hB := hB.trans k1
    refine ow_g (g_mv rfl) rfl ?_
    refine ow_g (g_len Try.underlying22 rfl (Rd.nil _ 1)) rfl ?_
    have o2 := o1.cut0 (h := 0) (Nat.zero_le _)
    refine ow_g (g_sl Try.underlying22 ty5 rfl o1.rd (.inl ⟨rfl, rfl⟩) (.inr ⟨_, _, rfl, rfl⟩) (by omega)) rfl ?_
    refine ow_g (g_as rfl) rfl ?_
    refine ow_nil ?_
    refine tw_seq ?_
    refine tw_region ?_
    refine ow_g (g_mv rfl) rfl ?_
    refine ow_g (g_as rfl) rfl ?_
    refine ow_nil ?_
    refine tw_ret1 hfin Try.results137 rfl ?_
    first
    | exact ⟨o2, hB⟩
    | exact ⟨own_nil _ _ _ _, hB⟩
  · -- no
    refine tw_skip ?_
    refine tw_seq ?_
    refine tw_region ?_
    refine ow_g (g_mv rfl) rfl ?_
    refine ow_g (g_as rfl) rfl ?_
    refine ow_nil ?_
    refine tw_ret1 hfin Try.results137 rfl ?_
    first
    | exact ⟨o2, hB⟩
    | exact ⟨own_nil _ _ _ _, hB⟩

set_option maxRecDepth 100000 in
theorem concat_any (v : Value) (us : List Value) (ls : List (List UInt8)) (w : World) (hv : Rd w 1 v us.length us) (hl : RdL w us ls) (hsum : ls.flatten.length ≤ 140737488355328) : Rets Try.prog 95 [v] w (fun u w' => OwnB w' w.heap.size u ls.flatten ∧ Keep [] w w') := by
  have hB : Keep [] w w := Keep.refl _ _
  have hll := hl.1
  have hle := hv.le
  refine rets_of_tw Try.func95 rfl (by decide) Try.ntmps95 rfl (fun fin _ hfin => ?_)
  refine tw_seq ?_
  refine tw_region ?_
  refine ow_g (g_as rfl) rfl ?_
  refine ow_nil ?_
  refine tw_seq ?_
  refine tw_region ?_
  refine ow_g (g_as rfl) rfl ?_
  refine ow_nil ?_
  refine tw_seq ?_
  refine tw_seq ?_
  refine tw_region ?_
  refine ow_g (g_mv rfl) rfl ?_
  refine ow_g (g_len Try.underlying114 rfl (by first | assumption | exact Own.rd (by assumption) | exact Rd.keep0 (by assumption) hB | exact Own.rd (Own.keep0 (by assumption) hB))) rfl ?_
  refine ow_g (g_mv rfl) rfl ?_
  refine ow_nil ?_
  refine tw_block ?_
  refine tw_loop (Γ := Int) (fun i => [(0, v), (3, .int .i64 ((ls.take i.toNat).flatten.length : Int)), (9, v), (10, .int .i64 (us.length : Int)), (11, .int .i64 i)]) (fun i W => 0 ≤ i ∧ i ≤ ls.length ∧ w = W) (fun i => (ls.length - i).toNat) 0 ⟨rfl, rfl, rfl, rfl, rfl, trivial⟩ (⟨by decide, by omega, rfl⟩) ?_
  rintro i w1 ⟨hi0, hi1, rfl⟩
  refine tw_keep [(0, v), (3, .int .i64 ((ls.take i.toNat).flatten.length : Int)), (9, v), (10, .int .i64 (us.length : Int)), (11, .int .i64 i)] ⟨rfl, rfl, rfl, rfl, rfl, trivial⟩ ?_
  have hft := flatten_take_le ls i.toNat
  refine tw_seq ?_
  refine tw_region ?_
  refine ow_g (g_lt rfl rfl) rfl ?_
  refine ow_nil ?_
  refine tw_seq ?_
  refine tw_if rfl (fun hc1 => ?_) (fun hc1 => ?_)
  · -- yes
    refine tw_skip ?_
    refine tw_seq ?_
    refine tw_block ?_
    refine tw_seq ?_
    refine tw_region ?_
    refine ow_g (g_ix Try.underlying114 ty22 rfl (by first | assumption | exact Own.rd (by assumption) | exact Rd.keep0 (by assumption) hB | exact Own.rd (Own.keep0 (by assumption) hB)) rfl (by omega)) rfl ?_
    obtain ⟨u, x, hx, hu, ru⟩ := hl.get (i := i.toNat) (by omega)
    have e1 : ls.take (i + 1).toNat = ls.take i.toNat ++ [x] := by rw [show (i + 1).toNat = i.toNat + 1 from by omega]; exact take_get hx
    have hsz := length_le_flatten hx
    refine ow_g (g_lde sc22 rfl (by first | assumption | exact Own.rd (by assumption) | exact Rd.keep0 (by assumption) hB | exact Own.rd (Own.keep0 (by assumption) hB)) (by rw [Nat.mul_one]; exact hu)) rfl ?_
    refine ow_g (g_as rfl) rfl ?_
    refine ow_nil ?_
    refine tw_seq ?_
    refine tw_region ?_
    refine ow_g (g_mv rfl) rfl ?_
    refine ow_g (g_mv rfl) rfl ?_
    refine ow_g (g_len Try.underlying22 rfl (by first | assumption | exact Own.rd (by assumption) | exact Rd.keep0 (by assumption) hB | exact Own.rd (Own.keep0 (by assumption) hB))) rfl ?_
    refine ow_g (g_add rfl rfl (by omega)) rfl ?_
    refine ow_g (g_as rfl) rfl ?_
    refine ow_nil ?_
    refine tw_seq ?_
    refine tw_region ?_
    refine ow_g (g_mv rfl) rfl ?_
    refine ow_g (g_lt rfl rfl) rfl ?_
    refine ow_nil ?_
    refine tw_ifF rfl (by omega) ?_
    refine tw_skip ?_
    refine tw_b ?_
    refine tw_region ?_
    refine ow_g (g_add rfl rfl (by omega)) rfl ?_
    refine ow_g (g_mv rfl) rfl ?_
    refine ow_nil ?_
    refine tw_inv (Γ := Int) (i + 1) ⟨rfl, congrArg (fun z : Int => some (Value.int .i64 z)) (show ((ls.take i.toNat).flatten.length : Int) + (x.length : Int) = _ from by rw [e1, List.flatten_append, List.length_append]; simp), rfl, rfl, rfl, trivial⟩ (by (try dsimp only); omega) (⟨by omega, by omega, rfl⟩)
  · -- no
    refine tw_exit rfl ?_
    refine tw_seq ?_
    refine tw_region ?_
    refine ow_g (g_mv rfl) rfl ?_
    refine ow_d (d_call (vs := [_, _]) rfl (grow_nil _ _ (by constructor <;> omega))) rfl ?_
    rintro v1 w2 ⟨o1, k1⟩
    have z_k1 := k1.size
    replace hB := hB.trans k1
    have u_o1 := o1.blk
    refine ow_g (g_as rfl) rfl ?_
    refine ow_nil ?_
    refine tw_seq ?_
    refine tw_seq ?_
    refine tw_region ?_
    refine ow_g (g_mv rfl) rfl ?_
    refine ow_g (g_len Try.underlying114 rfl (by first | assumption | exact Own.rd (by assumption) | exact Rd.keep0 (by assumption) hB | exact Own.rd (Own.keep0 (by assumption) hB))) rfl ?_
    refine ow_g (g_mv rfl) rfl ?_
    refine ow_nil ?_
    refine tw_block ?_
    refine tw_loop (Γ := Int × Value) (fun ⟨j, o⟩ => [(6, o), (25, v), (26, .int .i64 (us.length : Int)), (27, .int .i64 j)]) (fun ⟨j, o⟩ W => 0 ≤ j ∧ j ≤ ls.length ∧ OwnB W w.heap.size o (ls.take j.toNat).flatten ∧ Keep [] w W) (fun ⟨j, o⟩ => (ls.length - j).toNat) ⟨0, v1⟩ ⟨rfl, rfl, rfl, rfl, trivial⟩ (⟨by decide, by omega, by simpa using o1, hB⟩) ?_
    rintro ⟨j, o⟩ w3 ⟨hj0, hj1, ow, hB⟩
    refine tw_keep [(6, o), (25, v), (26, .int .i64 (us.length : Int)), (27, .int .i64 j)] ⟨rfl, rfl, rfl, rfl, trivial⟩ ?_
    have u_ow := ow.blk
    refine tw_seq ?_
    refine tw_region ?_
    refine ow_g (g_lt rfl rfl) rfl ?_
    refine ow_nil ?_
    refine tw_seq ?_
    refine tw_if rfl (fun hc2 => ?_) (fun hc2 => ?_)
    · -- yes
      refine tw_skip ?_
      refine tw_seq ?_
      refine tw_block ?_
      refine tw_seq ?_
      refine tw_region ?_
      refine ow_g (g_ix Try.underlying114 ty22 rfl (by first | assumption | exact Own.rd (by assumption) | exact Rd.keep0 (by assumption) hB | exact Own.rd (Own.keep0 (by assumption) hB)) rfl (by omega)) rfl ?_
      obtain ⟨u, x, hx, hu, ru⟩ := hl.get (i := j.toNat) (by omega)
      have e1 : ls.take (j + 1).toNat = ls.take j.toNat ++ [x] := by rw [show (j + 1).toNat = j.toNat + 1 from by omega]; exact take_get hx
      have hsz := length_le_flatten hx
      refine ow_g (g_lde sc22 rfl (by first | assumption | exact Own.rd (by assumption) | exact Rd.keep0 (by assumption) hB | exact Own.rd (Own.keep0 (by assumption) hB)) (by rw [Nat.mul_one]; exact hu)) rfl ?_
      refine ow_g (g_as rfl) rfl ?_
      refine ow_nil ?_
      refine tw_region ?_
      refine ow_g (g_mv rfl) rfl ?_
      refine ow_g (g_mv rfl) rfl ?_
      refine ow_d (d_appB  Try.underlying22 ty5 rfl (by first | assumption | exact own_nil _ _ _ _) rfl (by first | assumption | exact Own.rd (by assumption) | exact Rd.keep0 (by assumption) hB | exact Own.rd (Own.keep0 (by assumption) hB)) (by first | omega | (simp only [bv_length, List.length_append, Int.toNat_natCast] at *; omega)) (by have := hB.size; omega)) rfl ?_
      rintro v2 w4 ⟨o2, k2, lb1, nn1⟩
      replace hB := hB.new k2 (fun x hx => .inl (ow.blk x hx).1)
      have u_o2 := fun x hx => (lb1 x hx).elim (fun h => Or.inl (u_ow x h)) (fun h => Or.inr (And.intro h (o2.blk x hx).2))
      refine ow_g (g_as rfl) rfl ?_
      refine ow_nil ?_
      refine tw_b ?_
      refine tw_region ?_
      refine ow_g (g_add rfl rfl (by omega)) rfl ?_
      refine ow_g (g_mv rfl) rfl ?_
      refine ow_nil ?_
      refine tw_inv (Γ := Int × Value) ⟨j + 1, v2⟩ ⟨rfl, rfl, rfl, rfl, trivial⟩ (by (try dsimp only); omega) (⟨by omega, by omega, by rw [e1, List.flatten_append]; simpa [OwnB] using o2, hB⟩)
    · -- no
      refine tw_exit rfl ?_
      refine tw_seq ?_
      refine tw_region ?_
      refine ow_g (g_mv rfl) rfl ?_
      refine ow_g (g_as rfl) rfl ?_
      refine ow_nil ?_
      refine tw_ret1 hfin Try.results95 rfl ?_
      have hj : j.toNat = ls.length := by omega
      rw [hj, List.take_length] at ow
      exact ⟨ow, hB⟩

end Go.Proofs.Ytdbfpmkilchilaa.W
