import Derived.Test.YtdbfpmkilchilaaTy
namespace Go.Proofs.Ytdbfpmkilchilaa.W
open Go Go.Eng Go.Byt
set_option linter.unusedVariables false
set_option linter.unusedSimpArgs false
def bitsOf (size : Int) : Int := if size = 1 ∨ size = 2 ∨ size = 4 then 8 * size else if size = 8 then 62 else -1
set_option maxRecDepth 100000 in
theorem bits_any (size : Int) (w : World) : Rets Try.prog 108 [.int .i64 size] w (fun v w' => v = .int .i64 (bitsOf size) ∧ w = w') := by
  refine rets_of_tw Try.func108 rfl (by decide) Try.ntmps108 rfl (fun fin _ hfin => ?_)
  refine tw_seq ?_
  refine tw_region ?_
  refine ow_g (g_as rfl) rfl ?_
  refine ow_nil ?_
  refine tw_seq ?_
  refine tw_seq ?_
  refine tw_region ?_
  refine ow_g (g_mv rfl) rfl ?_
  refine ow_nil ?_
  refine tw_block ?_
  refine tw_seq ?_
  refine tw_seq ?_
  refine tw_region ?_
  refine ow_g (g_eq rfl rfl) rfl ?_
  refine ow_g (g_as rfl) rfl ?_
  refine ow_nil ?_
  refine tw_if rfl (fun hc1 => ?_) (fun hc1 => ?_)
  · -- yes
    refine tw_skip ?_
    refine tw_ifT rfl hc1 ?_
    refine tw_seq ?_
    refine tw_region ?_
    refine ow_g (g_mv rfl) rfl ?_
    refine ow_g (g_mul rfl rfl (by omega)) rfl ?_
    refine ow_g (g_as rfl) rfl ?_
    refine ow_nil ?_
    refine tw_ret1 hfin Try.results108 rfl ?_
    exact ⟨by first | rfl | (congr 1; unfold bitsOf; repeat (first | rw [if_pos (by omega)] | rw [if_neg (by omega)])), rfl⟩
  · -- no
    refine tw_seq ?_
    refine tw_region ?_
    refine ow_g (g_eq rfl rfl) rfl ?_
    refine ow_g (g_as rfl) rfl ?_
    refine ow_nil ?_
    refine tw_if rfl (fun hc2 => ?_) (fun hc2 => ?_)
    · -- yes
      refine tw_skip ?_
      refine tw_ifT rfl hc2 ?_
      refine tw_seq ?_
      refine tw_region ?_
      refine ow_g (g_mv rfl) rfl ?_
      refine ow_g (g_mul rfl rfl (by omega)) rfl ?_
      refine ow_g (g_as rfl) rfl ?_
      refine ow_nil ?_
      refine tw_ret1 hfin Try.results108 rfl ?_
      exact ⟨by first | rfl | (congr 1; unfold bitsOf; repeat (first | rw [if_pos (by omega)] | rw [if_neg (by omega)])), rfl⟩
    · -- no
      refine tw_region ?_
      refine ow_g (g_eq rfl rfl) rfl ?_
      refine ow_g (g_as rfl) rfl ?_
      refine ow_nil ?_
      refine tw_if rfl (fun hc3 => ?_) (fun hc3 => ?_)
      · -- yes
        refine tw_seq ?_
        refine tw_region ?_
        refine ow_g (g_mv rfl) rfl ?_
        refine ow_g (g_mul rfl rfl (by omega)) rfl ?_
        refine ow_g (g_as rfl) rfl ?_
        refine ow_nil ?_
        refine tw_ret1 hfin Try.results108 rfl ?_
        exact ⟨by first | rfl | (congr 1; unfold bitsOf; repeat (first | rw [if_pos (by omega)] | rw [if_neg (by omega)])), rfl⟩
      · -- no
        refine tw_seq ?_
        refine tw_region ?_
        refine ow_g (g_eq rfl rfl) rfl ?_
        refine ow_g (g_as rfl) rfl ?_
        refine ow_nil ?_
        refine tw_if rfl (fun hc4 => ?_) (fun hc4 => ?_)
        · -- yes
          refine tw_seq ?_
          refine tw_region ?_
          refine ow_g (g_as rfl) rfl ?_
          refine ow_nil ?_
          refine tw_ret1 hfin Try.results108 rfl ?_
          exact ⟨by first | rfl | (congr 1; unfold bitsOf; repeat (first | rw [if_pos (by omega)] | rw [if_neg (by omega)])), rfl⟩
        · -- no
          refine tw_skip ?_
          refine tw_b ?_
          refine tw_seq ?_
          refine tw_region ?_
          refine ow_g (g_as rfl) rfl ?_
          refine ow_nil ?_
          refine tw_ret1 hfin Try.results108 rfl ?_
          exact ⟨by first | rfl | (congr 1; unfold bitsOf; repeat (first | rw [if_pos (by omega)] | rw [if_neg (by omega)])), rfl⟩

set_option maxRecDepth 100000 in
theorem put_any (n size : Int) (hs : 0 ≤ size ∧ size ≤ 8) (w : World) : Rets Try.prog 109 [.int .i64 n, .int .i64 size] w (fun v w' => OwnB w' w.heap.size v (be n size.toNat) ∧ Keep [] w w' ∧ isNil v = false) := by
  have hB : Keep [] w w := Keep.refl _ _
  refine rets_of_tw Try.func109 rfl (by decide) Try.ntmps109 rfl (fun fin _ hfin => ?_)
  refine tw_seq ?_
  refine tw_region ?_
  refine ow_g (g_as rfl) rfl ?_
  refine ow_nil ?_
  refine tw_seq ?_
  refine tw_region ?_
  refine ow_g (g_mv rfl) rfl ?_
  refine ow_d (d_mk Try.underlying22 ty5 rfl rfl (by omega) (by constructor <;> omega)) rfl ?_
  rintro v1 w1 ⟨o1, nn1, lb1, k1, z1⟩
  have z_k1 := k1.size
  replace hB := hB.trans k1
  have u_o1 := o1.blk
  refine ow_g (g_as rfl) rfl ?_
  refine ow_nil ?_
  refine tw_seq ?_
  refine tw_seq ?_
  refine tw_region ?_
  refine ow_g (g_mv rfl) rfl ?_
  refine ow_g (g_mv rfl) rfl ?_
  refine ow_nil ?_
  refine tw_block ?_
  refine tw_loop (Γ := Int) (fun i => [(0, .int .i64 n), (1, .int .i64 size), (5, v1), (9, .int .i64 size), (10, .int .i64 i)]) (fun i W => 0 ≤ i ∧ i ≤ size ∧ Own W w.heap.size 5 1 v1 size.toNat (bv (putI n size.toNat i.toNat)) ∧ Keep [] w W) (fun i => (size - i).toNat) 0 ⟨rfl, rfl, rfl, rfl, rfl, trivial⟩ (⟨by omega, by omega, by rw [show (0 : Int).toNat = 0 from rfl, putI_zero, ← bv_zeros]; exact o1, hB⟩) ?_
  rintro i w2 ⟨hi0, hi1, ow, hB⟩
  refine tw_keep [(0, .int .i64 n), (1, .int .i64 size), (5, v1), (9, .int .i64 size), (10, .int .i64 i)] ⟨rfl, rfl, rfl, rfl, rfl, trivial⟩ ?_
  have u_ow := ow.blk
  refine tw_seq ?_
  refine tw_region ?_
  refine ow_g (g_lt rfl rfl) rfl ?_
  refine ow_nil ?_
  refine tw_seq ?_
  refine tw_if rfl (fun hc1 => ?_) (fun hc1 => ?_)
  · -- yes
    refine tw_skip ?_
    refine tw_seq ?_
    refine tw_block ?_
    refine tw_seq ?_
    refine tw_region ?_
    refine ow_g (g_mv rfl) rfl ?_
    refine ow_g (g_as rfl) rfl ?_
    refine ow_nil ?_
    refine tw_region ?_
    refine ow_g (g_mv rfl) rfl ?_
    refine ow_g (g_mv rfl) rfl ?_
    refine ow_g (g_sub rfl rfl (by omega)) rfl ?_
    refine ow_g (g_mv rfl) rfl ?_
    refine ow_g (g_sub rfl rfl (by omega)) rfl ?_
    refine ow_g (g_mv rfl) rfl ?_
    refine ow_g (g_mv rfl) rfl ?_
    refine ow_g (g_mul rfl rfl (by omega)) rfl ?_
    refine ow_g (g_shr rfl rfl (by constructor <;> (try simp only [IntKind.bits]) <;> omega)) rfl ?_
    refine ow_g (g_cv (by rw [Try.underlying3]; rfl) Try.underlying5 rfl) rfl ?_
    refine ow_g (g_ix Try.underlying22 ty5 rfl (by first | assumption | exact Own.rd (by assumption) | exact Rd.keep0 (by assumption) hB | exact Own.rd (Own.keep0 (by assumption) hB)) rfl (by omega)) rfl ?_
    have hpos : ((size - 1 - i).toNat * 1) = size.toNat - 1 - i.toNat := by omega
    refine ow_d0 (d_sto (u := .int .u8 _) ty5 rfl rfl rfl ow (by rw [hpos, bv_length, putI_length]; omega)) ?_
    rintro _ w9 ⟨ow2, k9, z9⟩
    replace hB := hB.new k9 (fun x hx => .inl (ow.blk x hx).1)
    replace ow : Own w9 w.heap.size 5 1 v1 size.toNat (bv (putI n size.toNat (i + 1).toNat)) := by
      have e1 : (i + 1).toNat = i.toNat + 1 := by omega
      rw [e1, ← putI_set n size.toNat i.toNat (by omega)]
      rw [hpos] at ow2
      have e2 : IntKind.u8.wrap (n / 2 ^ (8 * i).toNat) = ((byteAt n i.toNat).toNat : Int) := by rw [byteAt_toNat, IntKind.wrap_u8]; congr 3; omega
      rw [e2] at ow2
      have e3 : (bv (putI n size.toNat i.toNat)).set (size.toNat - 1 - i.toNat) (.int .u8 ((byteAt n i.toNat).toNat : Int)) = bv ((putI n size.toNat i.toNat).set (size.toNat - 1 - i.toNat) (byteAt n i.toNat)) := by simp [bv, List.map_set]
      rw [e3] at ow2; exact ow2
    refine ow_nil ?_
    refine tw_b ?_
    refine tw_region ?_
    refine ow_g (g_add rfl rfl (by omega)) rfl ?_
    refine ow_g (g_mv rfl) rfl ?_
    refine ow_nil ?_
    refine tw_inv (Γ := Int) (i + 1) ⟨rfl, rfl, rfl, rfl, rfl, trivial⟩ (by (try dsimp only); omega) (⟨by omega, by omega, ow, hB⟩)
  · -- no
    refine tw_exit rfl ?_
    refine tw_seq ?_
    refine tw_region ?_
    refine ow_g (g_mv rfl) rfl ?_
    refine ow_g (g_as rfl) rfl ?_
    refine ow_nil ?_
    refine tw_ret1 hfin Try.results109 rfl ?_
    obtain rfl : i = size := by omega
    exact ⟨by unfold OwnB; rw [be_length, ← putI_all]; exact ow, hB, nn1⟩

set_option maxRecDepth 100000 in
theorem number_any (n size : Int) (hs : size = 1 ∨ size = 2 ∨ size = 4 ∨ size = 8) (w : World) : Rets Try.prog 64 [.int .i64 n, .int .i64 size] w (fun v w' => ∃ u, v = .tuple #[u, .int .i64 (numE (bitsOf size) n)] ∧ OwnB w' w.heap.size u (numB (bitsOf size) n size) ∧ Keep [] w w') := by
  have hB : Keep [] w w := Keep.refl _ _
  have hbt : 0 ≤ bitsOf size ∧ bitsOf size ≤ 64 := by unfold bitsOf; rcases hs with rfl | rfl | rfl | rfl <;> decide
  refine rets_of_tw Try.func64 rfl (by decide) Try.ntmps64 rfl (fun fin _ hfin => ?_)
  refine tw_seq ?_
  refine tw_region ?_
  refine ow_g (g_as rfl) rfl ?_
  refine ow_g (g_as rfl) rfl ?_
  refine ow_nil ?_
  refine tw_seq ?_
  refine tw_region ?_
  refine ow_g (g_mv rfl) rfl ?_
  refine ow_d (d_call (vs := [_]) rfl (bits_any _ _)) rfl ?_
  rintro _ w1 ⟨rfl, rfl⟩
  refine ow_g (g_as rfl) rfl ?_
  refine ow_nil ?_
  refine tw_seq ?_
  refine tw_seq ?_
  refine tw_region ?_
  refine ow_g (g_mv rfl) rfl ?_
  refine ow_g (g_lt rfl rfl) rfl ?_
  refine ow_nil ?_
  refine tw_if rfl (fun hc1 => ?_) (fun hc1 => ?_)
  · -- yes
    refine tw_seq ?_
    refine tw_region ?_
    refine ow_g (g_as rfl) rfl ?_
    refine ow_g (g_as rfl) rfl ?_
    refine ow_nil ?_
    refine tw_ret2 hfin Try.results64 rfl rfl ?_
    first
    | (have he : numE (bitsOf size) n = 1 := by unfold numE; rw [if_pos (by assumption)]
       rw [← he]; exact ⟨_, rfl, by unfold OwnB numB; rw [he]; exact own_nil _ _ _ _, hB⟩)
    | (have he : numE (bitsOf size) n = 11 := by unfold numE; rw [if_neg (by assumption), if_pos (by assumption)]
       rw [← he]; exact ⟨_, rfl, by unfold OwnB numB; rw [he]; exact own_nil _ _ _ _, hB⟩)
    | (have he : numE (bitsOf size) n = 0 := by unfold numE; rw [if_neg (by assumption), if_neg (by omega)]
       rw [← he]; exact ⟨_, rfl, by unfold numB; rw [if_pos he]; assumption, hB⟩)
  · -- no
    refine tw_skip ?_
    refine tw_seq ?_
    refine tw_seq ?_
    refine tw_region ?_
    refine ow_g (g_mv rfl) rfl ?_
    refine ow_g (g_lt rfl rfl) rfl ?_
    refine ow_g (g_mv rfl) rfl ?_
    refine ow_grp 13 false rfl (fun c1 hgc1 => ?_)
    refine ow_gg [(0, _)] (grd1 rfl rfl rfl hgc1) ⟨und0 rfl, trivial⟩ (fun hw1 => g_mv rfl) rfl ?_
    refine ow_gg [(6, _)] (grd1 rfl rfl rfl hgc1) ⟨und0 rfl, trivial⟩ (fun hw2 => g_mv rfl) rfl ?_
    refine ow_gg [(14, _), (15, _)] (grd1 rfl rfl rfl hgc1) ⟨und1 rfl, und1 rfl, trivial⟩ (fun hw3 => g_shr rfl rfl hbt) rfl ?_
    refine ow_gg [(16, _)] (grd1 rfl rfl rfl hgc1) ⟨und1 rfl, trivial⟩ (fun hw4 => g_ne rfl rfl) rfl ?_
    refine ow_g (g_por rfl rfl hgc1) rfl ?_
    refine ow_nil ?_
    refine tw_cond rfl (fun hc2 => ?_) (fun hc2 => ?_)
    · -- yes
      have hd1 := hc2
      try (simp only [Bool.and_eq_true, Bool.or_eq_true, decide_eq_true_eq, Bool.and_eq_false_iff, Bool.or_eq_false_iff, decide_eq_false_iff_not, Bool.not_eq_true', Bool.not_eq_false', Bool.not_eq_true, Bool.not_eq_false, ne_eq, Decidable.not_not] at hd1)
      refine tw_seq ?_
      refine tw_region ?_
      refine ow_g (g_as rfl) rfl ?_
      refine ow_g (g_as rfl) rfl ?_
      refine ow_nil ?_
      refine tw_ret2 hfin Try.results64 rfl rfl ?_
      first
      | (have he : numE (bitsOf size) n = 1 := by unfold numE; rw [if_pos (by assumption)]
         rw [← he]; exact ⟨_, rfl, by unfold OwnB numB; rw [he]; exact own_nil _ _ _ _, hB⟩)
      | (have he : numE (bitsOf size) n = 11 := by unfold numE; rw [if_neg (by assumption), if_pos (by assumption)]
         rw [← he]; exact ⟨_, rfl, by unfold OwnB numB; rw [he]; exact own_nil _ _ _ _, hB⟩)
      | (have he : numE (bitsOf size) n = 0 := by unfold numE; rw [if_neg (by assumption), if_neg (by omega)]
         rw [← he]; exact ⟨_, rfl, by unfold numB; rw [if_pos he]; assumption, hB⟩)
    · -- no
      have hd2 := hc2
      try (simp only [Bool.and_eq_true, Bool.or_eq_true, decide_eq_true_eq, Bool.and_eq_false_iff, Bool.or_eq_false_iff, decide_eq_false_iff_not, Bool.not_eq_true', Bool.not_eq_false', Bool.not_eq_true, Bool.not_eq_false, ne_eq, Decidable.not_not] at hd2)
      refine tw_skip ?_
      refine tw_seq ?_
      refine tw_region ?_
      refine ow_g (g_mv rfl) rfl ?_
      refine ow_g (g_mv rfl) rfl ?_
      refine ow_d (d_call (vs := [_, _]) rfl (put_any _ _ (by omega) _)) rfl ?_
      rintro v1 w2 ⟨o1, k1, nn1⟩
      have z_k1 := k1.size
      replace hB := hB.trans k1
      have u_o1 := o1.blk
      refine ow_g (g_as rfl) rfl ?_
      refine ow_g (g_as rfl) rfl ?_
      refine ow_nil ?_
      refine tw_ret2 hfin Try.results64 rfl rfl ?_
      first
      | (have he : numE (bitsOf size) n = 1 := by unfold numE; rw [if_pos (by assumption)]
         rw [← he]; exact ⟨_, rfl, by unfold OwnB numB; rw [he]; exact own_nil _ _ _ _, hB⟩)
      | (have he : numE (bitsOf size) n = 11 := by unfold numE; rw [if_neg (by assumption), if_pos (by assumption)]
         rw [← he]; exact ⟨_, rfl, by unfold OwnB numB; rw [he]; exact own_nil _ _ _ _, hB⟩)
      | (have he : numE (bitsOf size) n = 0 := by unfold numE; rw [if_neg (by assumption), if_neg (by omega)]
         rw [← he]; exact ⟨_, rfl, by unfold numB; rw [if_pos he]; assumption, hB⟩)

theorem vlen_of {n : Int} (h0 : 0 ≤ n) {m c : Int} {s : Nat} (hm : bits .or .i64 n c = m) (k : Nat) (hc : c % 2 ^ k = 0) (hn : n < 2 ^ k) (h1 : 0 ≤ c) (h2 : c < 9223372036854775808) (h3 : n < 9223372036854775808) (hv : vlen n.toNat = be (c + n) s) : vlen n.toNat = be m s := by
  rw [hv, ← hm, bits_or_comm, or_add k h1 hc h2 h0 hn h3]
set_option maxRecDepth 100000 in
theorem length_any (n : Int) (hn : 0 ≤ n ∧ n < 1073741824) (w : World) : Rets Try.prog 138 [.int .i64 n] w (fun v w' => ∃ u, v = .tuple #[u, .int .i64 0] ∧ OwnB w' w.heap.size u (vlen n.toNat) ∧ Keep [] w w') := by
  have hB : Keep [] w w := Keep.refl _ _
  refine rets_of_tw Try.func138 rfl (by decide) Try.ntmps138 rfl (fun fin _ hfin => ?_)
  refine tw_seq ?_
  refine tw_region ?_
  refine ow_g (g_as rfl) rfl ?_
  refine ow_g (g_as rfl) rfl ?_
  refine ow_nil ?_
  refine tw_seq ?_
  refine tw_seq ?_
  refine tw_region ?_
  refine ow_g (g_mv rfl) rfl ?_
  refine ow_nil ?_
  refine tw_block ?_
  refine tw_unroll 3 ?_
  refine tw_seq ?_
  refine tw_region ?_
  refine ow_g (g_lt rfl rfl) rfl ?_
  refine ow_nil ?_
  refine tw_seq ?_
  refine tw_ifT rfl (by decide) ?_
  refine tw_skip ?_
  refine tw_seq ?_
  refine tw_block ?_
  refine tw_seq ?_
  refine tw_region ?_
  refine ow_g (g_mv rfl) rfl ?_
  refine ow_g (g_as rfl) rfl ?_
  refine ow_nil ?_
  refine tw_seq ?_
  refine tw_region ?_
  refine ow_g (g_mv rfl) rfl ?_
  refine ow_g (g_fold (j := 1) (g_shl rfl rfl (by decide)) (by decide)) rfl ?_
  refine ow_g (g_as rfl) rfl ?_
  refine ow_nil ?_
  refine tw_seq ?_
  refine tw_region ?_
  refine ow_g (g_mv rfl) rfl ?_
  refine ow_g (g_ge rfl rfl) rfl ?_
  refine ow_g (g_mv rfl) rfl ?_
  refine ow_grp 13 true rfl (fun c1 hgc1 => ?_)
  refine ow_gg [(0, _)] (grd1 rfl rfl rfl hgc1) ⟨und0 rfl, trivial⟩ (fun hw1 => g_mv rfl) rfl ?_
  refine ow_gg [(5, _)] (grd1 rfl rfl rfl hgc1) ⟨und0 rfl, trivial⟩ (fun hw2 => g_mv rfl) rfl ?_
  refine ow_gg [(15, _)] (grd1 rfl rfl rfl hgc1) ⟨und1 rfl, trivial⟩ (fun hw3 => g_fold (j := 8) (g_mulw rfl rfl) (by decide)) rfl ?_
  refine ow_gg [(16, _)] (grd1 rfl rfl rfl hgc1) ⟨und1 rfl, trivial⟩ (fun hw4 => g_fold (j := 6) (g_subw rfl rfl) (by decide)) rfl ?_
  refine ow_gg [(14, _), (17, _)] (grd1 rfl rfl rfl hgc1) ⟨und1 rfl, und1 rfl, trivial⟩ (fun hw5 => g_shrc (m := 64) rfl rfl (by decide) (by decide)) rfl ?_
  refine ow_gg [(18, _)] (grd1 rfl rfl rfl hgc1) ⟨und1 rfl, trivial⟩ (fun hw6 => g_eq rfl rfl) rfl ?_
  refine ow_g (g_pand rfl rfl hgc1) rfl ?_
  refine ow_nil ?_
  refine tw_cond rfl (fun hc1 => ?_) (fun hc1 => ?_)
  · -- yes
    have hd1 := hc1
    try (simp only [Bool.and_eq_true, Bool.or_eq_true, decide_eq_true_eq, Bool.and_eq_false_iff, Bool.or_eq_false_iff, decide_eq_false_iff_not, Bool.not_eq_true', Bool.not_eq_false', Bool.not_eq_true, Bool.not_eq_false, ne_eq, Decidable.not_not] at hd1)
    refine tw_seq ?_
    refine tw_region ?_
    refine ow_g (g_mv rfl) rfl ?_
    refine ow_g (g_mv rfl) rfl ?_
    refine ow_g (g_mv rfl) rfl ?_
    refine ow_g (g_fold (j := 8) (g_mulw rfl rfl) (by decide)) rfl ?_
    refine ow_g (g_fold (j := 6) (g_subw rfl rfl) (by decide)) rfl ?_
    refine ow_g (g_fold (j := 0) (g_shl rfl rfl (by decide)) (by decide)) rfl ?_
    refine ow_g (g_or rfl rfl) rfl ?_
    refine ow_g (g_mv rfl) rfl ?_
    refine ow_d (d_call (vs := [_, _]) rfl (put_any _ _ (by decide) _)) rfl ?_
    rintro v1 w1 ⟨o1, k1, nn1⟩
    have z_k1 := k1.size
    replace hB := hB.trans k1
    have u_o1 := o1.blk
    refine ow_g (g_as rfl) rfl ?_
    refine ow_g (g_as rfl) rfl ?_
    refine ow_nil ?_
    refine tw_ret2 hfin Try.results138 rfl rfl ?_
    have hz : vlen n.toNat = be (bits .or .i64 n 0) 1 := vlen_of (by omega) rfl 6 (by decide) (by omega) (by decide) (by decide) (by omega) (by unfold vlen; rw [if_pos (by omega)]; congr 1; omega)
    exact ⟨_, rfl, (by rw [hz]; assumption), hB⟩
  · -- no
    have hd2 := hc1
    try (simp only [Bool.and_eq_true, Bool.or_eq_true, decide_eq_true_eq, Bool.and_eq_false_iff, Bool.or_eq_false_iff, decide_eq_false_iff_not, Bool.not_eq_true', Bool.not_eq_false', Bool.not_eq_true, Bool.not_eq_false, ne_eq, Decidable.not_not] at hd2)
    refine tw_skip ?_
    refine tw_b ?_
    refine tw_region ?_
    refine ow_g (g_fold (j := 1) (g_addw rfl rfl) (by decide)) rfl ?_
    refine ow_g (g_mv rfl) rfl ?_
    refine ow_nil ?_
    refine tw_lp ?_
    refine tw_seq ?_
    refine tw_region ?_
    refine ow_g (g_lt rfl rfl) rfl ?_
    refine ow_nil ?_
    refine tw_seq ?_
    refine tw_ifT rfl (by decide) ?_
    refine tw_skip ?_
    refine tw_seq ?_
    refine tw_block ?_
    refine tw_seq ?_
    refine tw_region ?_
    refine ow_g (g_mv rfl) rfl ?_
    refine ow_g (g_as rfl) rfl ?_
    refine ow_nil ?_
    refine tw_seq ?_
    refine tw_region ?_
    refine ow_g (g_mv rfl) rfl ?_
    refine ow_g (g_fold (j := 2) (g_shl rfl rfl (by decide)) (by decide)) rfl ?_
    refine ow_g (g_as rfl) rfl ?_
    refine ow_nil ?_
    refine tw_seq ?_
    refine tw_region ?_
    refine ow_g (g_mv rfl) rfl ?_
    refine ow_g (g_ge rfl rfl) rfl ?_
    refine ow_g (g_mv rfl) rfl ?_
    refine ow_grp 13 true rfl (fun c2 hgc2 => ?_)
    refine ow_gg [(0, _)] (grd1 rfl rfl rfl hgc2) ⟨und0 rfl, trivial⟩ (fun hw7 => g_mv rfl) rfl ?_
    refine ow_gg [(5, _)] (grd1 rfl rfl rfl hgc2) ⟨und0 rfl, trivial⟩ (fun hw8 => g_mv rfl) rfl ?_
    refine ow_gg [(15, _)] (grd1 rfl rfl rfl hgc2) ⟨und1 rfl, trivial⟩ (fun hw9 => g_fold (j := 16) (g_mulw rfl rfl) (by decide)) rfl ?_
    refine ow_gg [(16, _)] (grd1 rfl rfl rfl hgc2) ⟨und1 rfl, trivial⟩ (fun hw10 => g_fold (j := 14) (g_subw rfl rfl) (by decide)) rfl ?_
    refine ow_gg [(14, _), (17, _)] (grd1 rfl rfl rfl hgc2) ⟨und1 rfl, und1 rfl, trivial⟩ (fun hw11 => g_shrc (m := 16384) rfl rfl (by decide) (by decide)) rfl ?_
    refine ow_gg [(18, _)] (grd1 rfl rfl rfl hgc2) ⟨und1 rfl, trivial⟩ (fun hw12 => g_eq rfl rfl) rfl ?_
    refine ow_g (g_pand rfl rfl hgc2) rfl ?_
    refine ow_nil ?_
    refine tw_cond rfl (fun hc2 => ?_) (fun hc2 => ?_)
    · -- yes
      have hd3 := hc2
      try (simp only [Bool.and_eq_true, Bool.or_eq_true, decide_eq_true_eq, Bool.and_eq_false_iff, Bool.or_eq_false_iff, decide_eq_false_iff_not, Bool.not_eq_true', Bool.not_eq_false', Bool.not_eq_true, Bool.not_eq_false, ne_eq, Decidable.not_not] at hd3)
      refine tw_seq ?_
      refine tw_region ?_
      refine ow_g (g_mv rfl) rfl ?_
      refine ow_g (g_mv rfl) rfl ?_
      refine ow_g (g_mv rfl) rfl ?_
      refine ow_g (g_fold (j := 16) (g_mulw rfl rfl) (by decide)) rfl ?_
      refine ow_g (g_fold (j := 14) (g_subw rfl rfl) (by decide)) rfl ?_
      refine ow_g (g_fold (j := 16384) (g_shl rfl rfl (by decide)) (by decide)) rfl ?_
      refine ow_g (g_or rfl rfl) rfl ?_
      refine ow_g (g_mv rfl) rfl ?_
      refine ow_d (d_call (vs := [_, _]) rfl (put_any _ _ (by decide) _)) rfl ?_
      rintro v2 w2 ⟨o2, k2, nn2⟩
      have z_k2 := k2.size
      replace hB := hB.trans k2
      have u_o2 := o2.blk
      refine ow_g (g_as rfl) rfl ?_
      refine ow_g (g_as rfl) rfl ?_
      refine ow_nil ?_
      refine tw_ret2 hfin Try.results138 rfl rfl ?_
      have hz : vlen n.toNat = be (bits .or .i64 n 16384) 2 := vlen_of (by omega) rfl 14 (by decide) (by omega) (by decide) (by decide) (by omega) (by unfold vlen; rw [if_neg (by omega), if_pos (by omega)]; congr 1; omega)
      exact ⟨_, rfl, (by rw [hz]; assumption), hB⟩
    · -- no
      have hd4 := hc2
      try (simp only [Bool.and_eq_true, Bool.or_eq_true, decide_eq_true_eq, Bool.and_eq_false_iff, Bool.or_eq_false_iff, decide_eq_false_iff_not, Bool.not_eq_true', Bool.not_eq_false', Bool.not_eq_true, Bool.not_eq_false, ne_eq, Decidable.not_not] at hd4)
      refine tw_skip ?_
      refine tw_b ?_
      refine tw_region ?_
      refine ow_g (g_fold (j := 2) (g_addw rfl rfl) (by decide)) rfl ?_
      refine ow_g (g_mv rfl) rfl ?_
      refine ow_nil ?_
      refine tw_lp ?_
      refine tw_seq ?_
      refine tw_region ?_
      refine ow_g (g_lt rfl rfl) rfl ?_
      refine ow_nil ?_
      refine tw_seq ?_
      refine tw_ifT rfl (by decide) ?_
      refine tw_skip ?_
      refine tw_seq ?_
      refine tw_block ?_
      refine tw_seq ?_
      refine tw_region ?_
      refine ow_g (g_mv rfl) rfl ?_
      refine ow_g (g_as rfl) rfl ?_
      refine ow_nil ?_
      refine tw_seq ?_
      refine tw_region ?_
      refine ow_g (g_mv rfl) rfl ?_
      refine ow_g (g_fold (j := 4) (g_shl rfl rfl (by decide)) (by decide)) rfl ?_
      refine ow_g (g_as rfl) rfl ?_
      refine ow_nil ?_
      refine tw_seq ?_
      refine tw_region ?_
      refine ow_g (g_mv rfl) rfl ?_
      refine ow_g (g_ge rfl rfl) rfl ?_
      refine ow_g (g_mv rfl) rfl ?_
      refine ow_grp 13 true rfl (fun c3 hgc3 => ?_)
      refine ow_gg [(0, _)] (grd1 rfl rfl rfl hgc3) ⟨und0 rfl, trivial⟩ (fun hw13 => g_mv rfl) rfl ?_
      refine ow_gg [(5, _)] (grd1 rfl rfl rfl hgc3) ⟨und0 rfl, trivial⟩ (fun hw14 => g_mv rfl) rfl ?_
      refine ow_gg [(15, _)] (grd1 rfl rfl rfl hgc3) ⟨und1 rfl, trivial⟩ (fun hw15 => g_fold (j := 32) (g_mulw rfl rfl) (by decide)) rfl ?_
      refine ow_gg [(16, _)] (grd1 rfl rfl rfl hgc3) ⟨und1 rfl, trivial⟩ (fun hw16 => g_fold (j := 30) (g_subw rfl rfl) (by decide)) rfl ?_
      refine ow_gg [(14, _), (17, _)] (grd1 rfl rfl rfl hgc3) ⟨und1 rfl, und1 rfl, trivial⟩ (fun hw17 => g_shrc (m := 1073741824) rfl rfl (by decide) (by decide)) rfl ?_
      refine ow_gg [(18, _)] (grd1 rfl rfl rfl hgc3) ⟨und1 rfl, trivial⟩ (fun hw18 => g_eq rfl rfl) rfl ?_
      refine ow_g (g_pand rfl rfl hgc3) rfl ?_
      refine ow_nil ?_
      refine tw_cond rfl (fun hc3 => ?_) (fun hc3 => ?_)
      · -- yes
        have hd5 := hc3
        try (simp only [Bool.and_eq_true, Bool.or_eq_true, decide_eq_true_eq, Bool.and_eq_false_iff, Bool.or_eq_false_iff, decide_eq_false_iff_not, Bool.not_eq_true', Bool.not_eq_false', Bool.not_eq_true, Bool.not_eq_false, ne_eq, Decidable.not_not] at hd5)
        refine tw_seq ?_
        refine tw_region ?_
        refine ow_g (g_mv rfl) rfl ?_
        refine ow_g (g_mv rfl) rfl ?_
        refine ow_g (g_mv rfl) rfl ?_
        refine ow_g (g_fold (j := 32) (g_mulw rfl rfl) (by decide)) rfl ?_
        refine ow_g (g_fold (j := 30) (g_subw rfl rfl) (by decide)) rfl ?_
        refine ow_g (g_fold (j := 2147483648) (g_shl rfl rfl (by decide)) (by decide)) rfl ?_
        refine ow_g (g_or rfl rfl) rfl ?_
        refine ow_g (g_mv rfl) rfl ?_
        refine ow_d (d_call (vs := [_, _]) rfl (put_any _ _ (by decide) _)) rfl ?_
        rintro v3 w3 ⟨o3, k3, nn3⟩
        have z_k3 := k3.size
        replace hB := hB.trans k3
        have u_o3 := o3.blk
        refine ow_g (g_as rfl) rfl ?_
        refine ow_g (g_as rfl) rfl ?_
        refine ow_nil ?_
        refine tw_ret2 hfin Try.results138 rfl rfl ?_
        have hz : vlen n.toNat = be (bits .or .i64 n 2147483648) 4 := vlen_of (by omega) rfl 30 (by decide) (by omega) (by decide) (by decide) (by omega) (by unfold vlen; rw [if_neg (by omega), if_neg (by omega)]; congr 1; omega)
        exact ⟨_, rfl, (by rw [hz]; assumption), hB⟩
      · -- no
        have hd6 := hc3
        try (simp only [Bool.and_eq_true, Bool.or_eq_true, decide_eq_true_eq, Bool.and_eq_false_iff, Bool.or_eq_false_iff, decide_eq_false_iff_not, Bool.not_eq_true', Bool.not_eq_false', Bool.not_eq_true, Bool.not_eq_false, ne_eq, Decidable.not_not] at hd6)
        refine tw_skip ?_
        refine tw_b ?_
        refine tw_region ?_
        refine ow_g (g_fold (j := 3) (g_addw rfl rfl) (by decide)) rfl ?_
        refine ow_g (g_mv rfl) rfl ?_
        refine ow_nil ?_
        refine tw_lp ?_
        refine tw_seq ?_
        refine tw_region ?_
        refine ow_g (g_lt rfl rfl) rfl ?_
        refine ow_nil ?_
        refine tw_seq ?_
        refine tw_ifF rfl (by decide) ?_
        refine tw_exit rfl ?_
        refine tw_seq ?_
        refine tw_region ?_
        refine ow_g (g_as rfl) rfl ?_
        refine ow_g (g_as rfl) rfl ?_
        refine ow_nil ?_
        refine tw_ret2 hfin Try.results138 rfl rfl ?_
        exfalso; omega

set_option maxRecDepth 100000 in
theorem vectors_any (v : Value) (us : List Value) (ls : List (List UInt8)) (w : World) (hv : Rd w 1 v us.length us) (hl : RdL w us ls) (hsum : (vecs ls).length ≤ 140737488355328) : Rets Try.prog 99 [v] w (fun r w' => ∃ u, r = .tuple #[u, .int .i64 (vecsE ls)] ∧ OwnB w' w.heap.size u (vecsB ls) ∧ Keep [] w w') := by
  have hB : Keep [] w w := Keep.refl _ _
  have hll := hl.1
  have hle := hv.le
  refine rets_of_tw Try.func99 rfl (by decide) Try.ntmps99 rfl (fun fin _ hfin => ?_)
  refine tw_seq ?_
  refine tw_region ?_
  refine ow_g (g_as rfl) rfl ?_
  refine ow_g (g_as rfl) rfl ?_
  refine ow_nil ?_
  refine tw_seq ?_
  refine tw_region ?_
  refine ow_g (g_as rfl) rfl ?_
  refine ow_nil ?_
  refine tw_seq ?_
  refine tw_seq ?_
  refine tw_region ?_
  refine ow_g (g_mv rfl) rfl ?_
  refine ow_g (g_len Try.underlying114 rfl (by first | assumption | exact Own.rd (by assumption) | exact Rd.keep0 (by assumption) hB | exact Own.rd (Own.keep0 (by assumption) hB))) rfl ?_
  refine ow_g (g_mv rfl) rfl ?_
  refine ow_nil ?_
  refine tw_block ?_
  refine tw_loop (Γ := Int × Value) (fun ⟨i, o⟩ => [(4, o), (9, v), (10, .int .i64 (us.length : Int)), (11, .int .i64 i)]) (fun ⟨i, o⟩ W => 0 ≤ i ∧ i ≤ ls.length ∧ OwnB W w.heap.size o (vecs (ls.take i.toNat)) ∧ Keep [] w W ∧ ∀ x ∈ ls.take i.toNat, x.length ≤ 65536) (fun ⟨i, o⟩ => (ls.length - i).toNat) ⟨0, .slice none 0 0⟩ ⟨rfl, rfl, rfl, rfl, trivial⟩ (⟨by decide, by omega, own_nil _ _ _ _, hB, by simp⟩) ?_
  rintro ⟨i, o⟩ w1 ⟨hi0, hi1, ow, hB, hall⟩
  refine tw_keep [(4, o), (9, v), (10, .int .i64 (us.length : Int)), (11, .int .i64 i)] ⟨rfl, rfl, rfl, rfl, trivial⟩ ?_
  have u_ow := ow.blk
  refine tw_seq ?_
  refine tw_region ?_
  refine ow_g (g_lt rfl rfl) rfl ?_
  refine ow_nil ?_
  refine tw_seq ?_
  refine tw_if rfl (fun hc1 => ?_) (fun hc1 => ?_)
  · -- yes
    refine tw_skip ?_
    refine tw_seq ?_
    refine tw_block ?_
    refine tw_seq ?_
    refine tw_region ?_
    refine ow_g (g_ix Try.underlying114 ty22 rfl (by first | assumption | exact Own.rd (by assumption) | exact Rd.keep0 (by assumption) hB | exact Own.rd (Own.keep0 (by assumption) hB)) rfl (by omega)) rfl ?_
    obtain ⟨u, x, hx, hu, ru⟩ := hl.get (i := i.toNat) (by omega)
    have e1 : ls.take (i + 1).toNat = ls.take i.toNat ++ [x] := by rw [show (i + 1).toNat = i.toNat + 1 from by omega]; exact take_get hx
    have hsz := length_le_vecs hx
    have hvl := vlen_length x.length
    refine ow_g (g_lde sc22 rfl (by first | assumption | exact Own.rd (by assumption) | exact Rd.keep0 (by assumption) hB | exact Own.rd (Own.keep0 (by assumption) hB)) (by rw [Nat.mul_one]; exact hu)) rfl ?_
    refine ow_g (g_as rfl) rfl ?_
    refine ow_nil ?_
    refine tw_seq ?_
    refine tw_seq ?_
    refine tw_region ?_
    refine ow_g (g_mv rfl) rfl ?_
    refine ow_g (g_len Try.underlying22 rfl (by first | assumption | exact Own.rd (by assumption) | exact Rd.keep0 (by assumption) hB | exact Own.rd (Own.keep0 (by assumption) hB))) rfl ?_
    refine ow_g (g_gt rfl rfl) rfl ?_
    refine ow_nil ?_
    refine tw_if rfl (fun hc2 => ?_) (fun hc2 => ?_)
    · -- yes
      refine tw_seq ?_
      refine tw_region ?_
      refine ow_g (g_as rfl) rfl ?_
      refine ow_g (g_as rfl) rfl ?_
      refine ow_nil ?_
      refine tw_ret2 hfin Try.results99 rfl rfl ?_
      first
      | (have hE : vecsE ls = 6 := by unfold vecsE; rw [if_neg (fun h => by have := h x (List.mem_of_getElem? hx); omega)]
         rw [← hE]; exact ⟨_, rfl, by unfold OwnB vecsB; rw [if_neg (fun h => by have := h x (List.mem_of_getElem? hx); omega)]; exact own_nil _ _ _ _, hB⟩)
      | (have hi : i.toNat = ls.length := by omega
         rw [hi, List.take_length] at ow hall
         have hE : vecsE ls = 0 := by unfold vecsE; rw [if_pos hall]
         rw [← hE]; exact ⟨_, rfl, by unfold vecsB; rw [if_pos hall]; exact ow, hB⟩)
    · -- no
      refine tw_skip ?_
      refine tw_seq ?_
      refine tw_region ?_
      refine ow_g (g_mv rfl) rfl ?_
      refine ow_g (g_len Try.underlying22 rfl (by first | assumption | exact Own.rd (by assumption) | exact Rd.keep0 (by assumption) hB | exact Own.rd (Own.keep0 (by assumption) hB))) rfl ?_
      refine ow_d (d_call (vs := [_]) rfl (length_any _ (by constructor <;> omega) _)) rfl ?_
      rintro _ w2 ⟨v1, rfl, o1, k1⟩
      have z_k1 := k1.size
      replace ow := ow.keep0 k1
      replace hB := hB.trans k1
      have u_o1 := o1.blk
      refine ow_g (g_mv rfl) rfl ?_
      refine ow_g (g_ext (vs := [_, _]) rfl rfl) rfl ?_
      refine ow_g (g_ext (vs := [_, _]) rfl rfl) rfl ?_
      refine ow_g (g_as rfl) rfl ?_
      refine ow_g (g_as rfl) rfl ?_
      refine ow_nil ?_
      refine tw_region ?_
      refine ow_g (g_mv rfl) rfl ?_
      refine ow_g (g_mv rfl) rfl ?_
      refine ow_d (d_appB  Try.underlying22 ty5 rfl (by first | assumption | exact own_nil _ _ _ _) rfl (by first | assumption | exact Own.rd (by assumption) | exact Rd.keep0 (by assumption) hB | exact Own.rd (Own.keep0 (by assumption) hB)) (by first | omega | (simp only [bv_length, List.length_append, Int.toNat_natCast] at *; omega)) (by have := hB.size; omega)) rfl ?_
      rintro v2 w3 ⟨o2, k2, lb1, nn1⟩
      replace hB := hB.new k2 (fun x hx => .inl (ow.blk x hx).1)
      replace o1 := o1.keep k2 (fun x hx hm => by have h1 := u_ow x hm; have h2 := u_o1 x hx; omega)
      have u_o2 := fun x hx => (lb1 x hx).elim (fun h => Or.inl (u_ow x h)) (fun h => Or.inr (And.intro h (o2.blk x hx).2))
      refine ow_g (g_mv rfl) rfl ?_
      refine ow_d (d_appB  Try.underlying22 ty5 rfl (by first | assumption | exact own_nil _ _ _ _) rfl (by first | assumption | exact Own.rd (by assumption) | exact Rd.keep0 (by assumption) hB | exact Own.rd (Own.keep0 (by assumption) hB)) (by first | omega | (simp only [bv_length, List.length_append, Int.toNat_natCast] at *; omega)) (by have := hB.size; omega)) rfl ?_
      rintro v3 w4 ⟨o3, k3, lb2, nn2⟩
      replace hB := hB.new k3 (fun x hx => .inl (o2.blk x hx).1)
      replace o1 := o1.keep k3 (fun x hx hm => by have h1 := u_o2 x hm; have h2 := u_o1 x hx; omega)
      have u_o3 := fun x hx => (lb2 x hx).elim (fun h => Or.inl (u_o2 x h)) (fun h => Or.inr (And.intro h (o3.blk x hx).2))
      refine ow_g (g_as rfl) rfl ?_
      refine ow_nil ?_
      refine tw_b ?_
      refine tw_region ?_
      refine ow_g (g_add rfl rfl (by omega)) rfl ?_
      refine ow_g (g_mv rfl) rfl ?_
      refine ow_nil ?_
      refine tw_inv (Γ := Int × Value) ⟨i + 1, v3⟩ ⟨rfl, rfl, rfl, rfl, trivial⟩ (by (try dsimp only); omega) (⟨by omega, by omega, by rw [e1, vecs_snoc]; simpa [OwnB, Nat.add_assoc] using o3, hB, by rw [e1]; intro y hy; (rcases List.mem_append.1 hy with h | h; (exact hall y h); (simp at h; subst h; omega))⟩)
  · -- no
    refine tw_exit rfl ?_
    refine tw_seq ?_
    refine tw_region ?_
    refine ow_g (g_mv rfl) rfl ?_
    refine ow_g (g_as rfl) rfl ?_
    refine ow_g (g_as rfl) rfl ?_
    refine ow_nil ?_
    refine tw_ret2 hfin Try.results99 rfl rfl ?_
    first
    | (have hE : vecsE ls = 6 := by unfold vecsE; rw [if_neg (fun h => by have := h x (List.mem_of_getElem? hx); omega)]
       rw [← hE]; exact ⟨_, rfl, by unfold OwnB vecsB; rw [if_neg (fun h => by have := h x (List.mem_of_getElem? hx); omega)]; exact own_nil _ _ _ _, hB⟩)
    | (have hi : i.toNat = ls.length := by omega
       rw [hi, List.take_length] at ow hall
       have hE : vecsE ls = 0 := by unfold vecsE; rw [if_pos hall]
       rw [← hE]; exact ⟨_, rfl, by unfold vecsB; rw [if_pos hall]; exact ow, hB⟩)

end Go.Proofs.Ytdbfpmkilchilaa.W
