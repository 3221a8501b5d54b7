/- Contracts and laws, part 3 of 3: what each function of the program and of the reference computes, shown once. -/
import Derived.Deep.Slices
import Derived.Test.YtimeclfplaonkaaQgb
namespace Go.Proofs.Ytimeclfplaonkaa.W
open Go Go.Eng Go.Byt
set_option linter.unusedVariables false
set_option linter.unusedSimpArgs false
theorem joinB_tri {x : Tri} (h : triOk x = true) : joinB [x.1, x.2.1, x.2.2] = triB x := by
  obtain ⟨h1, h2, h3⟩ := triOk_iff.1 h
  unfold joinB vec1B triB
  simp only [List.flatMap_cons, List.flatMap_nil, List.append_nil]
  rw [if_pos (by omega), if_pos (by omega), if_pos (by omega), List.append_assoc]
theorem joinB_2 {a b : List UInt8} (h1 : a.length ≤ 65536) (h2 : b.length ≤ 65536) : joinB [a, b] = vec a ++ vec b := by
  unfold joinB vec1B
  simp only [List.flatMap_cons, List.flatMap_nil, List.append_nil]
  rw [if_pos h1, if_pos h2]
theorem vec_len (xs : List UInt8) : (vec xs).length ≤ xs.length + 4 := by
  have := vlen_length xs.length
  unfold vec; rw [List.length_append]; omega
set_option maxRecDepth 100000 in
set_option maxHeartbeats 1000000 in
theorem rright_any (sv iv : Value) (ss : List Tri) (info : List UInt8) (w : World) (hs : RdT w sv ss) (hi : RdB w iv info) (hsm : ∀ x ∈ ss, x.1.length ≤ 140737488351232 ∧ x.2.1.length ≤ 140737488351232 ∧ x.2.2.length ≤ 140737488351232) : Rets Try.prog 39 [.agg [sv, iv].toArray] w (fun v w' => v = .bool (welOk ss info) ∧ Keep [] w w') := by
 have hB : Keep [] w w := Keep.refl _ _
 obtain ⟨css, hEl, hsl⟩ := hs
 refine rets_of_tw Try.func39 rfl (by decide) Try.ntmps39 rfl (fun fin _ hfin => ?_)
 refine tw_seq (tw_region (ow_d (d_box (cs := [sv, iv]) rfl rfl) rfl ?_))
 rintro _ w1 ⟨b1, rfl, eb1, hb1, k1, z1⟩
 have ge_b1 : w.heap.size ≤ b1 := by have := hB.size; omega
 replace hB := hB.trans k1
 clear eb1 z1
 refine ow_g (g_as rfl) rfl (ow_nil (tw_seq (tw_seq (tw_region (ow_g (g_faE 0 Try.underlying25 rfl ty22 (by decide) rfl rfl) rfl ?_)))))
 refine ow_g (g_ldb sc22 rfl hb1 rfl) rfl ?_
 refine ow_g (g_len Try.underlying22 rfl (by first | assumption | exact Own.rd ‹_› | exact Rd.keep0 ‹_› hB | exact Own.rd (Own.keep0 ‹_› hB))) rfl ?_
 refine ow_g (g_lt rfl rfl) rfl ?_
 refine ow_g (g_mv rfl) rfl (ow_grp 10 false rfl (fun c1 hgc1 => ?_))
 refine ow_gg [(1, _)] (grd1 rfl rfl rfl hgc1) ⟨und0 rfl, trivial⟩ (fun hw1 => g_faE 0 Try.underlying25 rfl ty22 (by decide) rfl rfl) rfl ?_
 refine ow_gg [(11, _)] (grd1 rfl rfl rfl hgc1) ⟨und1 rfl, trivial⟩ (fun hw2 => g_ldb sc22 rfl hb1 rfl) rfl ?_
 refine ow_gg [(12, _)] (grd1 rfl rfl rfl hgc1) ⟨und1 rfl, trivial⟩ (fun hw3 => g_len Try.underlying22 rfl (by first | assumption | exact Own.rd ‹_› | exact Rd.keep0 ‹_› hB | exact Own.rd (Own.keep0 ‹_› hB))) rfl ?_
 refine ow_gg [(13, _)] (grd1 rfl rfl rfl hgc1) ⟨und1 rfl, trivial⟩ (fun hw4 => g_gt rfl rfl) rfl ?_
 refine ow_g (g_por rfl rfl hgc1) rfl ?_
 refine ow_g (g_mv rfl) rfl (ow_grp 16 false rfl (fun c2 hgc2 => ?_))
 refine ow_gg [(1, _)] (grd1 rfl rfl rfl hgc2) ⟨und0 rfl, trivial⟩ (fun hw5 => g_faE 1 Try.underlying25 rfl ty23 (by decide) rfl rfl) rfl ?_
 refine ow_gg [(17, _)] (grd1 rfl rfl rfl hgc2) ⟨und1 rfl, trivial⟩ (fun hw6 => g_ldb sc23 rfl hb1 rfl) rfl ?_
 refine ow_gg [(18, _)] (grd1 rfl rfl rfl hgc2) ⟨und1 rfl, trivial⟩ (fun hw7 => g_len Try.underlying23 rfl (by first | assumption | exact Own.rd ‹_› | exact Rd.keep0 ‹_› hB | exact Own.rd (Own.keep0 ‹_› hB))) rfl ?_
 refine ow_gg [(19, _)] (grd1 rfl rfl rfl hgc2) ⟨und1 rfl, trivial⟩ (fun hw8 => g_gt rfl rfl) rfl ?_
 refine ow_g (g_por rfl rfl hgc2) rfl ?_
 refine ow_nil (tw_keep [(1, _), (21, _)] ⟨rfl, rfl, trivial⟩ ?_)
 refine tw_cond rfl (fun hc1 => ?_) (fun hc1 => ?_)
 ·
  have hd1 := hc1
  try (simp only [Bool.and_eq_true, Bool.or_eq_true, decide_eq_true_eq, Bool.and_eq_false_iff, Bool.or_eq_false_iff, decide_eq_false_iff_not, Bool.not_eq_true', Bool.not_eq_false', Bool.not_eq_true, Bool.not_eq_false, ne_eq, Decidable.not_not, decide_true, decide_false, Bool.true_and, Bool.false_and, Bool.or_false, Bool.false_or, not_true_eq_false, false_or, or_false, true_and, and_true, not_false_eq_true, reduceCtorEq] at hd1)
  refine tw_seq (tw_region (ow_g (g_as rfl) rfl (ow_nil (tw_ret1 hfin Try.results39 rfl ?_))))
  have hbad : welOk ss info = false := bad_len (by omega)
  exact ⟨by rw [hbad], hB⟩
 ·
  have hd2 := hc1
  try (simp only [Bool.and_eq_true, Bool.or_eq_true, decide_eq_true_eq, Bool.and_eq_false_iff, Bool.or_eq_false_iff, decide_eq_false_iff_not, Bool.not_eq_true', Bool.not_eq_false', Bool.not_eq_true, Bool.not_eq_false, ne_eq, Decidable.not_not, decide_true, decide_false, Bool.true_and, Bool.false_and, Bool.or_false, Bool.false_or, not_true_eq_false, false_or, or_false, true_and, and_true, not_false_eq_true, reduceCtorEq] at hd2)
  refine tw_skip (tw_seq (tw_region (ow_g (g_as rfl) rfl (ow_nil (tw_seq (tw_seq ?_))))))
  refine tw_region (ow_g (g_as rfl) rfl (ow_nil (tw_block (tw_loop (Γ := Nat) (fun i => [(1, .pointer (some ⟨b1, 0, none⟩)), (3, .int .i64 (triN (ss.take i) : Int)), (4, .int .i64 (i : Int))]) (fun i W => i ≤ ss.length ∧ (ss.take i).all triOk = true ∧ Bk W b1 25 [sv, iv] ∧ Keep [] w W) (fun i => ss.length - i) 0 ⟨rfl, rfl, rfl, trivial⟩ (⟨by omega, by simp, hb1, hB⟩) ?_))))
  rintro i w2 ⟨hi0, hall, hbx1, hB⟩
  refine tw_keep [(1, .pointer (some ⟨b1, 0, none⟩)), (3, .int .i64 (triN (ss.take i) : Int)), (4, .int .i64 (i : Int))] ⟨rfl, rfl, rfl, trivial⟩ ?_
  have htb := triN_bound hall
  rw [List.length_take] at htb
  refine tw_seq (tw_seq (tw_region (ow_g (g_mv rfl) rfl (ow_g (g_faE 0 Try.underlying25 rfl ty22 (by decide) rfl rfl) rfl ?_))))
  refine ow_g (g_ldb sc22 rfl hbx1 rfl) rfl ?_
  refine ow_g (g_len Try.underlying22 rfl (by first | assumption | exact Own.rd ‹_› | exact Rd.keep0 ‹_› hB | exact Own.rd (Own.keep0 ‹_› hB))) rfl ?_
  refine ow_g (g_lt rfl rfl) rfl ?_
  refine ow_nil (tw_if rfl (fun hc2 => ?_) (fun hc2 => ?_))
  ·
   refine tw_skip (tw_seq (tw_block (tw_seq (tw_region (ow_g (g_faE 0 Try.underlying25 rfl ty22 (by decide) rfl rfl) rfl ?_)))))
   refine ow_g (g_ldb sc22 rfl hbx1 rfl) rfl ?_
   refine ow_g (g_mv rfl) rfl ?_
   obtain ⟨x, r, e, b, hx, hd, hr, he, hb0⟩ := tri_at hEl (i := i) (by omega)
   have hxs := hsm x (List.mem_of_getElem? hx)
   refine ow_g (g_ix Try.underlying22 ty97 rfl (by first | assumption | exact Own.rd ‹_› | exact Rd.keep0 ‹_› hB | exact Own.rd (Own.keep0 ‹_› hB)) rfl (by omega)) rfl ?_
   refine ow_g (g_ldae (cs' := [r, e, b]) ag97 ty97 rfl (Rd.keep0 hsl hB) hd rfl (by decide)) rfl ?_
   refine ow_d (d_alloc ty97) rfl ?_
   rintro _ w3 ⟨b2, rfl, eb2, hb2, k2, z2⟩
   have ge_b2 : w.heap.size ≤ b2 := by have := hB.size; omega
   have ne_b1_b2 : b1 ≠ b2 := by have := hbx1.lt; omega
   replace hbx1 := hbx1.keep0 k2
   replace hB := hB.trans k2
   clear eb2 z2
   refine ow_d0 (d_sta ty97 rfl rfl rfl (by simp only [List.forall_mem_cons]; refine ⟨(by first | rfl | exact Rd.one (by first | assumption | exact Own.rd ‹_› | exact Rd.keep0 ‹_› hB | exact Own.rd (Own.keep0 ‹_› hB))), (by first | rfl | exact Rd.one (by first | assumption | exact Own.rd ‹_› | exact Rd.keep0 ‹_› hB | exact Own.rd (Own.keep0 ‹_› hB))), (by first | rfl | exact Rd.one (by first | assumption | exact Own.rd ‹_› | exact Rd.keep0 ‹_› hB | exact Own.rd (Own.keep0 ‹_› hB))), fun v hv => by cases hv⟩) hb2 rfl) ?_
   rintro _ w4 ⟨hb3, k3, z3⟩
   replace hbx1 := hbx1.keep k3 (fun hm => absurd (List.mem_singleton.1 hm) ne_b1_b2)
   replace hB := hB.new k3 (fun x hx => .inl ((List.mem_singleton.1 hx) ▸ ge_b2))
   clear z3
   replace hb3 : Bk w4 b2 _ [r, e, b] := hb3
   refine ow_nil (tw_keep [(1, _), (3, _), (4, _), (5, _)] ⟨rfl, rfl, rfl, rfl, trivial⟩ ?_)
   refine tw_seq (tw_seq (tw_region (ow_g (g_faE 0 Try.underlying97 rfl ty23 (by decide) rfl rfl) rfl ?_)))
   refine ow_g (g_ldb sc23 rfl hb3 rfl) rfl ?_
   refine ow_g (g_len Try.underlying23 rfl (by first | assumption | exact Own.rd ‹_› | exact Rd.keep0 ‹_› hB | exact Own.rd (Own.keep0 ‹_› hB))) rfl ?_
   refine ow_g (g_ne rfl rfl) rfl ?_
   refine ow_g (g_mv rfl) rfl (ow_grp 38 false rfl (fun c3 hgc3 => ?_))
   refine ow_gg [(5, _)] (grd1 rfl rfl rfl hgc3) ⟨und0 rfl, trivial⟩ (fun hw9 => g_faE 1 Try.underlying97 rfl ty23 (by decide) rfl rfl) rfl ?_
   refine ow_gg [(39, _)] (grd1 rfl rfl rfl hgc3) ⟨und1 rfl, trivial⟩ (fun hw10 => g_ldb sc23 rfl hb3 rfl) rfl ?_
   refine ow_gg [(40, _)] (grd1 rfl rfl rfl hgc3) ⟨und1 rfl, trivial⟩ (fun hw11 => g_len Try.underlying23 rfl (by first | assumption | exact Own.rd ‹_› | exact Rd.keep0 ‹_› hB | exact Own.rd (Own.keep0 ‹_› hB))) rfl ?_
   refine ow_gg [(41, _)] (grd1 rfl rfl rfl hgc3) ⟨und1 rfl, trivial⟩ (fun hw12 => g_ne rfl rfl) rfl ?_
   refine ow_g (g_por rfl rfl hgc3) rfl ?_
   refine ow_g (g_mv rfl) rfl (ow_grp 44 false rfl (fun c4 hgc4 => ?_))
   refine ow_gg [(5, _)] (grd1 rfl rfl rfl hgc4) ⟨und0 rfl, trivial⟩ (fun hw13 => g_faE 2 Try.underlying97 rfl ty23 (by decide) rfl rfl) rfl ?_
   refine ow_gg [(45, _)] (grd1 rfl rfl rfl hgc4) ⟨und1 rfl, trivial⟩ (fun hw14 => g_ldb sc23 rfl hb3 rfl) rfl ?_
   refine ow_gg [(46, _)] (grd1 rfl rfl rfl hgc4) ⟨und1 rfl, trivial⟩ (fun hw15 => g_len Try.underlying23 rfl (by first | assumption | exact Own.rd ‹_› | exact Rd.keep0 ‹_› hB | exact Own.rd (Own.keep0 ‹_› hB))) rfl ?_
   refine ow_gg [(47, _)] (grd1 rfl rfl rfl hgc4) ⟨und1 rfl, trivial⟩ (fun hw16 => g_gt rfl rfl) rfl ?_
   refine ow_g (g_por rfl rfl hgc4) rfl ?_
   refine ow_nil (tw_keep [(1, _), (3, _), (4, _), (5, _), (49, _)] ⟨rfl, rfl, rfl, rfl, rfl, trivial⟩ ?_)
   refine tw_cond rfl (fun hc3 => ?_) (fun hc3 => ?_)
   ·
    have hd3 := hc3
    try (simp only [Bool.and_eq_true, Bool.or_eq_true, decide_eq_true_eq, Bool.and_eq_false_iff, Bool.or_eq_false_iff, decide_eq_false_iff_not, Bool.not_eq_true', Bool.not_eq_false', Bool.not_eq_true, Bool.not_eq_false, ne_eq, Decidable.not_not, decide_true, decide_false, Bool.true_and, Bool.false_and, Bool.or_false, Bool.false_or, not_true_eq_false, false_or, or_false, true_and, and_true, not_false_eq_true, reduceCtorEq] at hd3)
    refine tw_seq (tw_region (ow_g (g_as rfl) rfl (ow_nil (tw_ret1 hfin Try.results39 rfl ?_))))
    have hbad : welOk ss info = false := bad_at hx (by
     rw [← Bool.not_eq_true]; intro hok; have := triOk_iff.1 hok; omega)
    exact ⟨by rw [hbad], hB⟩
   ·
    have hd4 := hc3
    try (simp only [Bool.and_eq_true, Bool.or_eq_true, decide_eq_true_eq, Bool.and_eq_false_iff, Bool.or_eq_false_iff, decide_eq_false_iff_not, Bool.not_eq_true', Bool.not_eq_false', Bool.not_eq_true, Bool.not_eq_false, ne_eq, Decidable.not_not, decide_true, decide_false, Bool.true_and, Bool.false_and, Bool.or_false, Bool.false_or, not_true_eq_false, false_or, or_false, true_and, and_true, not_false_eq_true, reduceCtorEq] at hd4)
    refine tw_skip (tw_region (ow_g (g_mv rfl) rfl (ow_g (g_add rfl rfl (by omega)) rfl ?_)))
    refine ow_g (g_faE 2 Try.underlying97 rfl ty23 (by decide) rfl rfl) rfl ?_
    refine ow_g (g_ldb sc23 rfl hb3 rfl) rfl ?_
    refine ow_g (g_len Try.underlying23 rfl (by first | assumption | exact Own.rd ‹_› | exact Rd.keep0 ‹_› hB | exact Own.rd (Own.keep0 ‹_› hB))) rfl ?_
    have hok : triOk x = true := triOk_iff.2 (by omega)
    have hnt := triN_take hx
    refine ow_g (v := .int .i64 (triN (ss.take (i + 1)) : Int)) (by rw [show ((triN (ss.take (i + 1)) : Nat) : Int) = ((triN (ss.take i) : Int) + 70) + (x.2.2.length : Int) by omega]; exact g_add rfl rfl (by omega)) rfl ?_
    refine ow_g (g_as rfl) rfl (ow_nil (tw_b (tw_region (ow_g (g_mv rfl) rfl (ow_g (g_add rfl rfl (by omega)) rfl ?_)))))
    refine ow_g (g_as rfl) rfl (ow_nil (tw_keep [(1, _), (3, _), (4, _)] ⟨rfl, rfl, rfl, trivial⟩ ?_))
    refine tw_inv (Γ := Nat) (i + 1) ⟨rfl, rfl, rfl, trivial⟩ (by (try dsimp only); omega) (⟨by omega, all_take hx hall hok, hbx1, hB⟩)
  ·
   refine tw_exit rfl ?_
   refine tw_seq (tw_region (ow_g (g_mv rfl) rfl (ow_g (g_le rfl rfl) rfl ?_)))
   refine ow_g (g_as rfl) rfl (ow_nil (tw_keep [(2, _)] ⟨rfl, trivial⟩ ?_))
   refine tw_ret1 hfin Try.results39 rfl ?_
   have e : ss.take i = ss := List.take_of_length_le (by omega)
   rw [e] at hall
   exact ⟨by rw [e, end_wel (info := info) (by omega) (by omega) (by omega) hall], hB⟩
set_option maxRecDepth 100000 in
set_option maxHeartbeats 1000000 in
theorem rput_any (sv iv : Value) (ss : List Tri) (info : List UInt8) (w : World) (hs : RdT w sv ss) (hi : RdB w iv info) (hsm : ∀ x ∈ ss, x.1.length ≤ 140737488351232 ∧ x.2.1.length ≤ 140737488351232 ∧ x.2.2.length ≤ 140737488351232) : Rets Try.prog 10 [.agg [sv, iv].toArray] w (fun v w' => ∃ u, v = .tuple #[u, .int .i64 (welE ss info)] ∧ OwnB w' w.heap.size u (welB ss info) ∧ Keep [] w w') := by
 have hB : Keep [] w w := Keep.refl _ _
 have hs' := hs
 obtain ⟨css, hEl, hsl⟩ := hs'
 refine rets_of_tw Try.func10 rfl (by decide) Try.ntmps10 rfl (fun fin _ hfin => ?_)
 refine tw_seq (tw_region (ow_d (d_box (cs := [sv, iv]) rfl rfl) rfl ?_))
 rintro _ w1 ⟨b1, rfl, eb1, hb1, k1, z1⟩
 have ge_b1 : w.heap.size ≤ b1 := by have := hB.size; omega
 replace hB := hB.trans k1
 clear eb1 z1
 refine ow_g (g_as rfl) rfl (ow_g (g_as rfl) rfl (ow_nil (tw_seq (tw_seq (tw_region (ow_g (g_ldab (cs' := [_, _]) ag25 ty25 rfl hb1 rfl rfl) rfl ?_))))))
 refine ow_d (d_call (vs := [_]) rfl (rright_any _ _ ss info _ (RdT.keep0 hs hB) (by first | assumption | exact Own.rd ‹_› | exact Rd.keep0 ‹_› hB | exact Own.rd (Own.keep0 ‹_› hB)) hsm)) rfl ?_
 rintro _ w2 ⟨rfl, k2⟩
 replace hb1 := hb1.keep0 k2
 replace hB := hB.trans k2
 refine ow_g (g_not rfl) rfl ?_
 refine ow_nil (tw_cond rfl (fun hc1 => ?_) (fun hc1 => ?_))
 ·
  have hd1 := hc1
  try (simp only [Bool.and_eq_true, Bool.or_eq_true, decide_eq_true_eq, Bool.and_eq_false_iff, Bool.or_eq_false_iff, decide_eq_false_iff_not, Bool.not_eq_true', Bool.not_eq_false', Bool.not_eq_true, Bool.not_eq_false, ne_eq, Decidable.not_not, decide_true, decide_false, Bool.true_and, Bool.false_and, Bool.or_false, Bool.false_or, not_true_eq_false, false_or, or_false, true_and, and_true, not_false_eq_true, reduceCtorEq] at hd1)
  refine tw_seq (tw_region (ow_g (g_as rfl) rfl (ow_g (g_as rfl) rfl (ow_nil (tw_ret2 hfin Try.results10 rfl rfl ?_)))))
  have hbad : welOk ss info = false := by simpa using hc1
  exact ⟨_, by unfold welE; rw [hbad]; rfl, by unfold welB; rw [hbad]; exact own_nil _ _ _ _, hB⟩
 ·
  have hd2 := hc1
  try (simp only [Bool.and_eq_true, Bool.or_eq_true, decide_eq_true_eq, Bool.and_eq_false_iff, Bool.or_eq_false_iff, decide_eq_false_iff_not, Bool.not_eq_true', Bool.not_eq_false', Bool.not_eq_true, Bool.not_eq_false, ne_eq, Decidable.not_not, decide_true, decide_false, Bool.true_and, Bool.false_and, Bool.or_false, Bool.false_or, not_true_eq_false, false_or, or_false, true_and, and_true, not_false_eq_true, reduceCtorEq] at hd2)
  refine tw_skip (tw_seq (tw_region (ow_g (g_as rfl) rfl (ow_nil (tw_seq (tw_seq ?_))))))
  refine tw_region ?_
  have hgood : welOk ss info = true := by simpa using hc1
  refine ow_g (g_as rfl) rfl (ow_nil (tw_block (tw_loop (Γ := Nat × Value) (fun ⟨i, o⟩ => [(1, .pointer (some ⟨b1, 0, none⟩)), (4, o), (5, .int .i64 (i : Int))]) (fun ⟨i, o⟩ W => i ≤ ss.length ∧ OwnB W (b1 + 1) o ((ss.take i).flatMap triB) ∧ Bk W b1 25 [sv, iv] ∧ Keep [] w W) (fun ⟨i, o⟩ => ss.length - i) ⟨0, .slice none 0 0⟩ ⟨rfl, rfl, rfl, trivial⟩ (⟨by omega, own_nil _ _ _ _, hb1, hB⟩) ?_)))
  rintro ⟨i, o⟩ w3 ⟨hi0, ow, hbx1, hB⟩
  refine tw_keep [(1, .pointer (some ⟨b1, 0, none⟩)), (4, o), (5, .int .i64 (i : Int))] ⟨rfl, rfl, rfl, trivial⟩ ?_
  have u_ow := ow.blk
  obtain ⟨hg1, hg2, hg3, hg4, hg5⟩ := welOk_iff.1 hgood
  refine tw_seq (tw_seq (tw_region (ow_g (g_mv rfl) rfl (ow_g (g_faE 0 Try.underlying25 rfl ty22 (by decide) rfl rfl) rfl ?_))))
  refine ow_g (g_ldb sc22 rfl hbx1 rfl) rfl ?_
  refine ow_g (g_len Try.underlying22 rfl (by first | assumption | exact Own.rd ‹_› | exact Rd.keep0 ‹_› hB | exact Own.rd (Own.keep0 ‹_› hB))) rfl ?_
  refine ow_g (g_lt rfl rfl) rfl ?_
  refine ow_nil (tw_if rfl (fun hc2 => ?_) (fun hc2 => ?_))
  ·
   refine tw_skip (tw_seq (tw_block (tw_seq (tw_region (ow_g (g_faE 0 Try.underlying25 rfl ty22 (by decide) rfl rfl) rfl ?_)))))
   refine ow_g (g_ldb sc22 rfl hbx1 rfl) rfl ?_
   refine ow_g (g_mv rfl) rfl ?_
   obtain ⟨x, r, e, b, hx, hd, hr, he, hb0⟩ := tri_at hEl (i := i) (by omega)
   have hxs := hsm x (List.mem_of_getElem? hx)
   refine ow_g (g_ix Try.underlying22 ty97 rfl (by first | assumption | exact Own.rd ‹_› | exact Rd.keep0 ‹_› hB | exact Own.rd (Own.keep0 ‹_› hB)) rfl (by omega)) rfl ?_
   have hok : triOk x = true := List.all_eq_true.1 hg4 x (List.mem_of_getElem? hx)
   have hok3 := triOk_iff.1 hok
   have hall : (ss.take i).all triOk = true := List.all_eq_true.2 fun y hy => List.all_eq_true.1 hg4 y (List.mem_of_mem_take hy)
   have hfl := flat_len hall
   have htl := triB_len hok
   have htn := triN_le ss i
   have hvl : (joinB [x.1, x.2.1, x.2.2]).length ≤ 30070 := by rw [joinB_tri hok]; omega
   refine ow_g (g_ldae (cs' := [r, e, b]) ag97 ty97 rfl (Rd.keep0 hsl hB) hd rfl (by decide)) rfl ?_
   refine ow_d (d_alloc ty97) rfl ?_
   rintro _ w4 ⟨b2, rfl, eb2, hb2, k3, z2⟩
   have ge_b2 : w.heap.size ≤ b2 := by have := hB.size; omega
   have sb_b2_ow := fun x hx => (show x ≠ b2 from by have := (ow.blk x hx).2; omega)
   have ne_b1_b2 : b1 ≠ b2 := by have := hbx1.lt; omega
   replace ow := ow.keep0 k3
   replace hbx1 := hbx1.keep0 k3
   replace hB := hB.trans k3
   clear eb2 z2
   refine ow_d0 (d_sta ty97 rfl rfl rfl (by simp only [List.forall_mem_cons]; refine ⟨(by first | rfl | exact Rd.one (by first | assumption | exact Own.rd ‹_› | exact Rd.keep0 ‹_› hB | exact Own.rd (Own.keep0 ‹_› hB))), (by first | rfl | exact Rd.one (by first | assumption | exact Own.rd ‹_› | exact Rd.keep0 ‹_› hB | exact Own.rd (Own.keep0 ‹_› hB))), (by first | rfl | exact Rd.one (by first | assumption | exact Own.rd ‹_› | exact Rd.keep0 ‹_› hB | exact Own.rd (Own.keep0 ‹_› hB))), fun v hv => by cases hv⟩) hb2 rfl) ?_
   rintro _ w5 ⟨hb3, k4, z3⟩
   replace ow := ow.keep k4 (fun x hx hm => sb_b2_ow x hx (List.mem_singleton.1 hm))
   replace hbx1 := hbx1.keep k4 (fun hm => absurd (List.mem_singleton.1 hm) ne_b1_b2)
   replace hB := hB.new k4 (fun x hx => .inl ((List.mem_singleton.1 hx) ▸ ge_b2))
   clear z3
   replace hb3 : Bk w5 b2 _ [r, e, b] := hb3
   refine ow_nil (tw_keep [(1, _), (4, _), (5, _), (6, _)] ⟨rfl, rfl, rfl, rfl, trivial⟩ ?_)
   refine tw_region (ow_g (g_mv rfl) rfl (ow_g (g_faE 0 Try.underlying97 rfl ty23 (by decide) rfl rfl) rfl ?_))
   refine ow_g (g_ldb sc23 rfl hb3 rfl) rfl ?_
   refine ow_g (g_faE 1 Try.underlying97 rfl ty23 (by decide) rfl rfl) rfl ?_
   refine ow_g (g_ldb sc23 rfl hb3 rfl) rfl ?_
   refine ow_g (g_faE 2 Try.underlying97 rfl ty23 (by decide) rfl rfl) rfl ?_
   refine ow_g (g_ldb sc23 rfl hb3 rfl) rfl ?_
   refine ow_d (d_bsL (m := 3) (ls := [x.1, x.2.1, x.2.2]) (xs := [.tmp 24, .tmp 26, .tmp 28]) (us := [_, _, _]) Try.underlying102 ty23 rfl rfl (rdL_cons (by first | exact Rd.nil _ _ | exact (by first | assumption | exact Own.rd ‹_› | exact Rd.keep0 ‹_› hB | exact Own.rd (Own.keep0 ‹_› hB))) (rdL_cons (by first | exact Rd.nil _ _ | exact (by first | assumption | exact Own.rd ‹_› | exact Rd.keep0 ‹_› hB | exact Own.rd (Own.keep0 ‹_› hB))) (rdL_cons (by first | exact Rd.nil _ _ | exact (by first | assumption | exact Own.rd ‹_› | exact Rd.keep0 ‹_› hB | exact Own.rd (Own.keep0 ‹_› hB))) (rdL_nil _)))) rfl rfl) rfl ?_
   rintro v1 w6 ⟨sl1, k5⟩
   replace ow := ow.keep0 k5
   replace hbx1 := hbx1.keep0 k5
   replace hb3 := hb3.keep0 k5
   replace hB := hB.trans k5
   refine ow_d (d_call (vs := [_]) rfl (rjoin_any _ _ _ _ ‹_› (by omega))) rfl ?_
   rintro v2 w7 ⟨o2, k6⟩
   have gl_o2 := hB.size
   have sb_b1_o2 := fun x hx => (show x ≠ b1 from by have h1 := (o2.blk x hx).1; have h2 := hbx1.lt; omega)
   have sb_b2_o2 := fun x hx => (show x ≠ b2 from by have h1 := (o2.blk x hx).1; have h2 := hb3.lt; omega)
   replace ow := ow.keep0 k6
   replace hbx1 := hbx1.keep0 k6
   replace hb3 := hb3.keep0 k6
   replace sl1 := sl1.keep0 k6
   replace hB := hB.trans k6
   have u_o2 := o2.blk
   have lt_o3 := hbx1.lt
   refine ow_d (d_appB Try.underlying23 ty5 rfl ow rfl (show RdB _ _ _ from o2.rd) (by first | omega | (simp only [List.length_append] at *; omega)) (by omega)) rfl ?_
   rintro v3 w8 ⟨o3, k7, lb1, _⟩
   replace hB := hB.new k7 (fun x hx => .inl (Nat.le_trans ge_b1 (Nat.le_of_lt (ow.blk x hx).1)))
   replace hbx1 := hbx1.keep k7 (fun hm => absurd (ow.blk _ hm).1 (Nat.lt_irrefl _))
   refine ow_g (g_as rfl) rfl (ow_nil (tw_keep [(1, _), (4, _), (5, _)] ⟨rfl, rfl, rfl, trivial⟩ ?_))
   refine tw_b (tw_region (ow_g (g_mv rfl) rfl (ow_g (g_add rfl rfl (by omega)) rfl ?_)))
   refine ow_g (g_as rfl) rfl (ow_nil (tw_inv (Γ := Nat × Value) ⟨i + 1, v3⟩ ⟨rfl, rfl, rfl, trivial⟩ (by (try dsimp only); omega) (⟨by omega, by have hh := o3; unfold OwnB; rw [flat_take hx, ← joinB_tri hok, List.length_append]; exact hh, hbx1, hB⟩)))
  ·
   refine tw_exit rfl ?_
   refine tw_seq (tw_region ?_)
   have e : ss.take i = ss := List.take_of_length_le (by omega)
   have hfl := flat_len hg4
   have hv1 := vec_len (ss.flatMap triB)
   have hv2 := vec_len info
   have hj2 : joinB [ss.flatMap triB, info] = vec (ss.flatMap triB) ++ vec info := joinB_2 (by omega) (by omega)
   rw [e] at ow
   refine ow_g (g_mv rfl) rfl (ow_g (g_faE 1 Try.underlying25 rfl ty23 (by decide) rfl rfl) rfl ?_)
   refine ow_g (g_ldb sc23 rfl hbx1 rfl) rfl ?_
   refine ow_d (d_bsL (m := 2) (ls := [ss.flatMap triB, info]) (xs := [.tmp 32, .tmp 34]) (us := [_, _]) Try.underlying102 ty23 rfl rfl (rdL_cons (by first | exact Rd.nil _ _ | exact (by first | assumption | exact Own.rd ‹_› | exact Rd.keep0 ‹_› hB | exact Own.rd (Own.keep0 ‹_› hB))) (rdL_cons (by first | exact Rd.nil _ _ | exact (by first | assumption | exact Own.rd ‹_› | exact Rd.keep0 ‹_› hB | exact Own.rd (Own.keep0 ‹_› hB))) (rdL_nil _))) rfl rfl) rfl ?_
   rintro v4 w9 ⟨sl2, k8⟩
   replace ow := ow.keep0 k8
   replace hbx1 := hbx1.keep0 k8
   replace hB := hB.trans k8
   refine ow_d (d_call (vs := [_]) rfl (rjoin_any _ _ _ _ ‹_› (by rw [hj2, List.length_append]; omega))) rfl ?_
   rintro v5 w10 ⟨o5, k9⟩
   have gl_o5 := hB.size
   have sb_b1_o5 := fun x hx => (show x ≠ b1 from by have h1 := (o5.blk x hx).1; have h2 := hbx1.lt; omega)
   replace ow := ow.keep0 k9
   replace hbx1 := hbx1.keep0 k9
   replace sl2 := sl2.keep0 k9
   replace hB := hB.trans k9
   have u_o5 := o5.blk
   refine ow_g (g_as rfl) rfl (ow_g (g_as rfl) rfl (ow_nil (tw_keep [(2, _), (3, _)] ⟨rfl, rfl, trivial⟩ ?_)))
   refine tw_ret2 hfin Try.results10 rfl rfl ?_
   have hh := o5
   rw [hj2] at hh
   exact ⟨_, by unfold welE; rw [hgood]; rfl, by unfold welB; rw [hgood]; exact hh.lo gl_o5, hB⟩
end Go.Proofs.Ytimeclfplaonkaa.W
namespace Go.Proofs.Ytimeclfplaonkaa.W
open Go Go.Eng Go.Byt
set_option linter.unusedVariables false
set_option linter.unusedSimpArgs false
set_option maxRecDepth 100000 in
set_option maxHeartbeats 1000000 in
theorem copied_any (v : Value) (xs : List UInt8) (w : World) (hv : RdB w v xs) (hx : xs.length ≤ 140737488355328) : Rets Try.prog 37 [v] w (fun u w' => OwnB w' w.heap.size u xs ∧ Keep [] w w') := by
 have hB : Keep [] w w := Keep.refl _ _
 refine rets_of_tw Try.func37 rfl (by decide) Try.ntmps37 rfl (fun fin _ hfin => ?_)
 refine tw_seq (tw_region (ow_g (g_as rfl) rfl (ow_nil (tw_seq (tw_region (ow_d (d_bs (m := 0) (xs := []) (vs := []) Try.underlying23 ty5 (by decide) rfl rfl rfl (by first | (simp; done) | (intro v hv; rw [List.mem_singleton] at hv; subst hv; rfl)) (by decide)) rfl ?_))))))
 rintro v1 w1 ⟨o1, nn1, lb1, k1, z1⟩
 have z_k1 := k1.size
 replace hB := hB.trans k1
 have u_o1 := o1.blk
 replace o1 : Own w1 _ _ 1 v1 0 (bv []) := o1
 refine ow_g (g_mv rfl) rfl (ow_d (d_appB  Try.underlying23 ty5 rfl (by first | assumption | exact own_nil _ _ _ _) rfl (by first | assumption | exact Own.rd ‹_› | exact Rd.keep0 ‹_› hB | exact Own.rd (Own.keep0 ‹_› hB)) (by first | omega | (simp only [bv_length, List.length_append, Int.toNat_natCast] at *; omega)) (by have := hB.size; omega)) rfl ?_)
 rintro v2 w2 ⟨o2, k2, lb2, nn2⟩
 have z_k2 := k2.size
 replace hB := hB.new k2 (fun x hx => .inl (o1.blk x hx).1)
 have u_o2 := fun x hx => (lb2 x hx).elim (fun h => Or.inl (u_o1 x h)) (fun h => Or.inr (And.intro h (o2.blk x hx).2))
 refine ow_g (g_as rfl) rfl (ow_nil (tw_ret1 hfin Try.results37 rfl ?_))
 exact ⟨by simpa [OwnB] using o2, hB⟩
set_option maxRecDepth 100000 in
set_option maxHeartbeats 1000000 in
theorem wnum_any (e : Int) (w : World) : Rets Try.prog 13 [.int .i64 e] w (fun r w' => r = .int .i64 e ∧ w = w') := by
 refine rets_of_tw Try.func13 rfl (by decide) Try.ntmps13 rfl (fun fin _ hfin => ?_)
 refine tw_seq (tw_region (ow_g (g_as rfl) rfl (ow_nil (tw_seq (tw_region (ow_g (g_mv rfl) rfl ?_))))))
 refine ow_g (g_as rfl) rfl (ow_nil (tw_ret1 hfin Try.results13 rfl ?_))
 exact ⟨rfl, rfl⟩
theorem wnum_k (e : Int) (w : World) : Rets Try.prog 13 [.int .i64 e] w (fun r w' => r = .int .i64 e ∧ Keep [] w w') := (wnum_any e w).mono fun _ _ ⟨h, e⟩ => ⟨h, e ▸ Keep.refl _ _⟩
set_option maxRecDepth 100000 in
set_option maxHeartbeats 1000000 in
theorem same_any (sv iv tv jv : Value) (ss : List Tri) (info : List UInt8) (w : World) (hs : RdT w sv ss) (hi : RdB w iv info) (ht : RdT w tv ss) (hj : RdB w jv info) : Rets Try.prog 14 [.agg [sv, iv].toArray, .agg [tv, jv].toArray] w (fun v w' => v = .bool true ∧ Keep [] w w') := by
  have hB : Keep [] w w := Keep.refl _ _
  obtain ⟨css, hEl, hsl⟩ := hs
  obtain ⟨cst, hEm, htl⟩ := ht
  have hle := hsl.le
  refine rets_of_tw Try.func14 rfl (by decide) Try.ntmps14 rfl (fun fin _ hfin => ?_)
  refine tw_seq ?_
  refine tw_region ?_
  refine ow_d (d_box (cs := [sv, iv]) rfl rfl) rfl ?_
  rintro _ w1 ⟨b1, rfl, eb1, hb1, k1, z1⟩
  have ge_b1 : w.heap.size ≤ b1 := by have := hB.size; omega
  replace hB := hB.trans k1
  clear eb1 z1
  refine ow_d (d_box (cs := [tv, jv]) rfl rfl) rfl ?_
  rintro _ w2 ⟨b2, rfl, eb2, hb2, k2, z2⟩
  have ge_b2 : w.heap.size ≤ b2 := by have := hB.size; omega
  have ne_b1_b2 : b1 ≠ b2 := by have := hb1.lt; omega
  replace hb1 := hb1.keep0 k2
  replace hB := hB.trans k2
  clear eb2 z2
  refine ow_g (g_as rfl) rfl ?_
  refine ow_nil ?_
  refine tw_seq ?_
  refine tw_seq ?_
  refine tw_region ?_
  refine ow_g (g_faE 0 Try.underlying29 rfl ty27 (by decide) rfl rfl) rfl ?_
  refine ow_g (g_ldb sc27 rfl hb1 rfl) rfl ?_
  refine ow_g (g_len Try.underlying27 rfl (by first | assumption | exact Own.rd (by assumption) | exact Rd.keep0 (by assumption) hB | exact Own.rd (Own.keep0 (by assumption) hB))) rfl ?_
  refine ow_g (g_faE 0 Try.underlying25 rfl ty22 (by decide) rfl rfl) rfl ?_
  refine ow_g (g_ldb sc22 rfl hb2 rfl) rfl ?_
  refine ow_g (g_len Try.underlying22 rfl (by first | assumption | exact Own.rd (by assumption) | exact Rd.keep0 (by assumption) hB | exact Own.rd (Own.keep0 (by assumption) hB))) rfl ?_
  refine ow_g (g_ne rfl rfl) rfl ?_
  refine ow_g (g_mv rfl) rfl ?_
  refine ow_gy (grdT rfl rfl rfl (decide_eq_false (fun h => h rfl))) (g_faE 1 Try.underlying29 rfl ty23 (by decide) rfl rfl) rfl ?_
  refine ow_gy (grdT rfl rfl rfl (decide_eq_false (fun h => h rfl))) (g_ldb sc23 rfl hb1 rfl) rfl ?_
  refine ow_gy (grdT rfl rfl rfl (decide_eq_false (fun h => h rfl))) (g_str Try.underlying23 Try.underlying5 Try.underlying9 rfl (by first | assumption | exact Own.rd (by assumption) | exact Rd.keep0 (by assumption) hB | exact Own.rd (Own.keep0 (by assumption) hB))) rfl ?_
  refine ow_gy (grdT rfl rfl rfl (decide_eq_false (fun h => h rfl))) (g_faE 1 Try.underlying25 rfl ty23 (by decide) rfl rfl) rfl ?_
  refine ow_gy (grdT rfl rfl rfl (decide_eq_false (fun h => h rfl))) (g_ldb sc23 rfl hb2 rfl) rfl ?_
  refine ow_gy (grdT rfl rfl rfl (decide_eq_false (fun h => h rfl))) (g_str Try.underlying23 Try.underlying5 Try.underlying9 rfl (by first | assumption | exact Own.rd (by assumption) | exact Rd.keep0 (by assumption) hB | exact Own.rd (Own.keep0 (by assumption) hB))) rfl ?_
  refine ow_gy (grdT rfl rfl rfl (decide_eq_false (fun h => h rfl))) (g_nes rfl rfl) rfl ?_
  refine ow_g (g_pickF rfl (decide_eq_false (fun h => h rfl)) rfl) rfl ?_
  refine ow_nil ?_
  refine tw_keep [(2, _), (3, _), (21, _)] ⟨rfl, rfl, rfl, trivial⟩ ?_
  refine tw_ifF rfl ((fun h => h rfl)) ?_
  refine tw_skip ?_
  refine tw_seq ?_
  refine tw_seq ?_
  refine tw_region ?_
  refine ow_g (g_as rfl) rfl ?_
  refine ow_nil ?_
  refine tw_block ?_
  refine tw_loop (Γ := Nat) (fun i => [(2, .pointer (some ⟨b1, 0, none⟩)), (3, .pointer (some ⟨b2, 0, none⟩)), (5, .int .i64 (i : Int))]) (fun i W => i ≤ ss.length ∧ Bk W b1 29 [sv, iv] ∧ Bk W b2 25 [tv, jv] ∧ Keep [] w W) (fun i => ss.length - i) 0 ⟨rfl, rfl, rfl, trivial⟩ (⟨by omega, hb1, hb2, hB⟩) ?_
  rintro i w3 ⟨hi0, hbx2, hbx3, hB⟩
  refine tw_keep [(2, .pointer (some ⟨b1, 0, none⟩)), (3, .pointer (some ⟨b2, 0, none⟩)), (5, .int .i64 (i : Int))] ⟨rfl, rfl, rfl, trivial⟩ ?_
  refine tw_seq ?_
  refine tw_seq ?_
  refine tw_region ?_
  refine ow_g (g_mv rfl) rfl ?_
  refine ow_g (g_faE 0 Try.underlying29 rfl ty27 (by decide) rfl rfl) rfl ?_
  refine ow_g (g_ldb sc27 rfl hbx2 rfl) rfl ?_
  refine ow_g (g_len Try.underlying27 rfl (by first | assumption | exact Own.rd (by assumption) | exact Rd.keep0 (by assumption) hB | exact Own.rd (Own.keep0 (by assumption) hB))) rfl ?_
  refine ow_g (g_lt rfl rfl) rfl ?_
  refine ow_nil ?_
  refine tw_if rfl (fun hc1 => ?_) (fun hc1 => ?_)
  · -- yes
    refine tw_skip ?_
    refine tw_seq ?_
    refine tw_block ?_
    refine tw_seq ?_
    refine tw_planA 49 [0, 1, 2, 3, 4, 5, 6, 7, 8, 9, 10, 11, 12, 13, 14, 15, 16, 17, 18, 19, 20, 21, 22, 23, 24, 25, 26, 27, 28, 29, 30, 31, 32, 33, 34, 35, 36, 37, 38, 39, 40, 41, 42, 43, 44, 45, 46, 47, 48] [] [] [] mixed [(2, _), (5, _), (3, _)] ⟨rfl, rfl, rfl, trivial⟩ (by decide +kernel) (by decide) (by decide) ?_ (fun x hx => by cases hx) rfl (fun w4 k3 => ?_)
    · intro q hq; cases hq
    replace hbx2 := hbx2.keep0 k3
    replace hbx3 := hbx3.keep0 k3
    replace hB := hB.trans k3
    obtain ⟨x, r, e, b, hx, hd, hr, he, hb0⟩ := tri_at hEl (i := i) (by omega)
    obtain ⟨x', r2, e2, b2', hx', hd2, hr2, he2, hb02⟩ := tri_at hEm (i := i) (by omega)
    obtain rfl : x = x' := Option.some.inj (hx.symm.trans hx')
    have h0 := tri_cell hd
    have g0 := tri_cell hd2
    have sn1 := Rd.some' hsl (by omega)
    have sn2 := Rd.some' htl (by omega)
    refine pa_g [(2, _)] rfl rfl ⟨rfl, trivial⟩ rfl (fun W' kk => g_faE 0 Try.underlying29 rfl ty27 (by decide) rfl rfl) ?_
    refine pa_g [(29, _)] rfl rfl ⟨rfl, trivial⟩ rfl (fun W' kk => g_ldb sc27 rfl (Bk.keep0 hbx2 kk) rfl) ?_
    refine pa_g [(5, _)] rfl rfl ⟨rfl, trivial⟩ rfl (fun W' kk => g_mv rfl) ?_
    refine pa_g [(30, _), (31, _)] rfl rfl ⟨rfl, rfl, trivial⟩ rfl (fun W' kk => g_ix Try.underlying27 ty98 rfl (by first | exact Rd.keep0 (by assumption) kk | exact Rd.keep0 (Own.rd (by assumption)) kk | exact Rd.keep0 (Rd.keep0 (by assumption) hB) kk | exact Rd.keep0 (Own.rd (Own.keep0 (by assumption) hB)) kk) rfl (by omega)) ?_
    refine pa_g [(32, _)] rfl rfl ⟨rfl, trivial⟩ rfl (fun W' kk => g_fae Try.underlying98 rfl ty23 (by decide) rfl sn1) ?_
    refine pa_g [(33, _)] rfl rfl ⟨rfl, trivial⟩ rfl (fun W' kk => g_lde sc23 rfl (by first | exact Rd.keep0 (by assumption) kk | exact Rd.keep0 (Own.rd (by assumption)) kk | exact Rd.keep0 (Rd.keep0 (by assumption) hB) kk | exact Rd.keep0 (Own.rd (Own.keep0 (by assumption) hB)) kk) h0.1) ?_
    refine pa_g [(34, _)] rfl rfl ⟨rfl, trivial⟩ rfl (fun W' kk => g_str Try.underlying23 Try.underlying5 Try.underlying9 rfl (by first | exact Rd.keep0 (by assumption) kk | exact Rd.keep0 (Own.rd (by assumption)) kk | exact Rd.keep0 (Rd.keep0 (by assumption) hB) kk | exact Rd.keep0 (Own.rd (Own.keep0 (by assumption) hB)) kk)) ?_
    refine pa_g [(3, _)] rfl rfl ⟨rfl, trivial⟩ rfl (fun W' kk => g_faE 0 Try.underlying25 rfl ty22 (by decide) rfl rfl) ?_
    refine pa_g [(36, _)] rfl rfl ⟨rfl, trivial⟩ rfl (fun W' kk => g_ldb sc22 rfl (Bk.keep0 hbx3 kk) rfl) ?_
    refine pa_g [(5, _)] rfl rfl ⟨rfl, trivial⟩ rfl (fun W' kk => g_mv rfl) ?_
    refine pa_g [(37, _), (38, _)] rfl rfl ⟨rfl, rfl, trivial⟩ rfl (fun W' kk => g_ix Try.underlying22 ty97 rfl (by first | exact Rd.keep0 (by assumption) kk | exact Rd.keep0 (Own.rd (by assumption)) kk | exact Rd.keep0 (Rd.keep0 (by assumption) hB) kk | exact Rd.keep0 (Own.rd (Own.keep0 (by assumption) hB)) kk) rfl (by omega)) ?_
    refine pa_g [(39, _)] rfl rfl ⟨rfl, trivial⟩ rfl (fun W' kk => g_fae Try.underlying97 rfl ty23 (by decide) rfl sn2) ?_
    refine pa_g [(40, _)] rfl rfl ⟨rfl, trivial⟩ rfl (fun W' kk => g_lde sc23 rfl (by first | exact Rd.keep0 (by assumption) kk | exact Rd.keep0 (Own.rd (by assumption)) kk | exact Rd.keep0 (Rd.keep0 (by assumption) hB) kk | exact Rd.keep0 (Own.rd (Own.keep0 (by assumption) hB)) kk) g0.1) ?_
    refine pa_g [(41, _)] rfl rfl ⟨rfl, trivial⟩ rfl (fun W' kk => g_str Try.underlying23 Try.underlying5 Try.underlying9 rfl (by first | exact Rd.keep0 (by assumption) kk | exact Rd.keep0 (Own.rd (by assumption)) kk | exact Rd.keep0 (Rd.keep0 (by assumption) hB) kk | exact Rd.keep0 (Own.rd (Own.keep0 (by assumption) hB)) kk)) ?_
    refine pa_g [(35, _), (42, _)] rfl rfl ⟨rfl, rfl, trivial⟩ rfl (fun W' kk => g_nes rfl rfl) ?_
    refine pa_g [(43, _)] rfl rfl ⟨rfl, trivial⟩ rfl (fun W' kk => g_mv rfl) ?_
    refine pa_gt [(2, _), (44, _)] rfl rfl ⟨rfl, rfl, trivial⟩ rfl (grdT rfl rfl rfl (decide_eq_false (fun h => h rfl))) (fun W' kk => g_faE 0 Try.underlying29 rfl ty27 (by decide) rfl rfl) ?_
    refine pa_gt [(44, _), (45, _)] rfl rfl ⟨rfl, rfl, trivial⟩ rfl (grdT rfl rfl rfl (decide_eq_false (fun h => h rfl))) (fun W' kk => g_ldb sc27 rfl (Bk.keep0 hbx2 kk) rfl) ?_
    refine pa_gt [(5, _), (44, _)] rfl rfl ⟨rfl, rfl, trivial⟩ rfl (grdT rfl rfl rfl (decide_eq_false (fun h => h rfl))) (fun W' kk => g_mv rfl) ?_
    refine pa_gt [(44, _), (46, _), (47, _)] rfl rfl ⟨rfl, rfl, rfl, trivial⟩ rfl (grdT rfl rfl rfl (decide_eq_false (fun h => h rfl))) (fun W' kk => g_ix Try.underlying27 ty98 rfl (by first | exact Rd.keep0 (by assumption) kk | exact Rd.keep0 (Own.rd (by assumption)) kk | exact Rd.keep0 (Rd.keep0 (by assumption) hB) kk | exact Rd.keep0 (Own.rd (Own.keep0 (by assumption) hB)) kk) rfl (by omega)) ?_
    refine pa_gt [(44, _), (48, _)] rfl rfl ⟨rfl, rfl, trivial⟩ rfl (grdT rfl rfl rfl (decide_eq_false (fun h => h rfl))) (fun W' kk => g_fae Try.underlying98 rfl ty23 (by decide) rfl sn1) ?_
    refine pa_gt [(44, _), (49, _)] rfl rfl ⟨rfl, rfl, trivial⟩ rfl (grdT rfl rfl rfl (decide_eq_false (fun h => h rfl))) (fun W' kk => g_lde sc23 rfl (by first | exact Rd.keep0 (by assumption) kk | exact Rd.keep0 (Own.rd (by assumption)) kk | exact Rd.keep0 (Rd.keep0 (by assumption) hB) kk | exact Rd.keep0 (Own.rd (Own.keep0 (by assumption) hB)) kk) h0.2.1) ?_
    refine pa_gt [(44, _), (50, _)] rfl rfl ⟨rfl, rfl, trivial⟩ rfl (grdT rfl rfl rfl (decide_eq_false (fun h => h rfl))) (fun W' kk => g_str Try.underlying23 Try.underlying5 Try.underlying9 rfl (by first | exact Rd.keep0 (by assumption) kk | exact Rd.keep0 (Own.rd (by assumption)) kk | exact Rd.keep0 (Rd.keep0 (by assumption) hB) kk | exact Rd.keep0 (Own.rd (Own.keep0 (by assumption) hB)) kk)) ?_
    refine pa_gt [(3, _), (44, _)] rfl rfl ⟨rfl, rfl, trivial⟩ rfl (grdT rfl rfl rfl (decide_eq_false (fun h => h rfl))) (fun W' kk => g_faE 0 Try.underlying25 rfl ty22 (by decide) rfl rfl) ?_
    refine pa_gt [(44, _), (52, _)] rfl rfl ⟨rfl, rfl, trivial⟩ rfl (grdT rfl rfl rfl (decide_eq_false (fun h => h rfl))) (fun W' kk => g_ldb sc22 rfl (Bk.keep0 hbx3 kk) rfl) ?_
    refine pa_gt [(5, _), (44, _)] rfl rfl ⟨rfl, rfl, trivial⟩ rfl (grdT rfl rfl rfl (decide_eq_false (fun h => h rfl))) (fun W' kk => g_mv rfl) ?_
    refine pa_gt [(44, _), (53, _), (54, _)] rfl rfl ⟨rfl, rfl, rfl, trivial⟩ rfl (grdT rfl rfl rfl (decide_eq_false (fun h => h rfl))) (fun W' kk => g_ix Try.underlying22 ty97 rfl (by first | exact Rd.keep0 (by assumption) kk | exact Rd.keep0 (Own.rd (by assumption)) kk | exact Rd.keep0 (Rd.keep0 (by assumption) hB) kk | exact Rd.keep0 (Own.rd (Own.keep0 (by assumption) hB)) kk) rfl (by omega)) ?_
    refine pa_gt [(44, _), (55, _)] rfl rfl ⟨rfl, rfl, trivial⟩ rfl (grdT rfl rfl rfl (decide_eq_false (fun h => h rfl))) (fun W' kk => g_fae Try.underlying97 rfl ty23 (by decide) rfl sn2) ?_
    refine pa_gt [(44, _), (56, _)] rfl rfl ⟨rfl, rfl, trivial⟩ rfl (grdT rfl rfl rfl (decide_eq_false (fun h => h rfl))) (fun W' kk => g_lde sc23 rfl (by first | exact Rd.keep0 (by assumption) kk | exact Rd.keep0 (Own.rd (by assumption)) kk | exact Rd.keep0 (Rd.keep0 (by assumption) hB) kk | exact Rd.keep0 (Own.rd (Own.keep0 (by assumption) hB)) kk) g0.2.1) ?_
    refine pa_gt [(44, _), (57, _)] rfl rfl ⟨rfl, rfl, trivial⟩ rfl (grdT rfl rfl rfl (decide_eq_false (fun h => h rfl))) (fun W' kk => g_str Try.underlying23 Try.underlying5 Try.underlying9 rfl (by first | exact Rd.keep0 (by assumption) kk | exact Rd.keep0 (Own.rd (by assumption)) kk | exact Rd.keep0 (Rd.keep0 (by assumption) hB) kk | exact Rd.keep0 (Own.rd (Own.keep0 (by assumption) hB)) kk)) ?_
    refine pa_gt [(44, _), (51, _), (58, _)] rfl rfl ⟨rfl, rfl, rfl, trivial⟩ rfl (grdT rfl rfl rfl (decide_eq_false (fun h => h rfl))) (fun W' kk => g_nes rfl rfl) ?_
    refine pa_g [(44, _), (59, _)] rfl rfl ⟨rfl, rfl, trivial⟩ rfl (fun W' kk => g_pickF rfl (decide_eq_false (fun h => h rfl)) rfl) ?_
    refine pa_g [(60, _)] rfl rfl ⟨rfl, trivial⟩ rfl (fun W' kk => g_mv rfl) ?_
    refine pa_gt [(2, _), (61, _)] rfl rfl ⟨rfl, rfl, trivial⟩ rfl (grdT rfl rfl rfl (decide_eq_false (fun h => h rfl))) (fun W' kk => g_faE 0 Try.underlying29 rfl ty27 (by decide) rfl rfl) ?_
    refine pa_gt [(61, _), (62, _)] rfl rfl ⟨rfl, rfl, trivial⟩ rfl (grdT rfl rfl rfl (decide_eq_false (fun h => h rfl))) (fun W' kk => g_ldb sc27 rfl (Bk.keep0 hbx2 kk) rfl) ?_
    refine pa_gt [(5, _), (61, _)] rfl rfl ⟨rfl, rfl, trivial⟩ rfl (grdT rfl rfl rfl (decide_eq_false (fun h => h rfl))) (fun W' kk => g_mv rfl) ?_
    refine pa_gt [(61, _), (63, _), (64, _)] rfl rfl ⟨rfl, rfl, rfl, trivial⟩ rfl (grdT rfl rfl rfl (decide_eq_false (fun h => h rfl))) (fun W' kk => g_ix Try.underlying27 ty98 rfl (by first | exact Rd.keep0 (by assumption) kk | exact Rd.keep0 (Own.rd (by assumption)) kk | exact Rd.keep0 (Rd.keep0 (by assumption) hB) kk | exact Rd.keep0 (Own.rd (Own.keep0 (by assumption) hB)) kk) rfl (by omega)) ?_
    refine pa_gt [(61, _), (65, _)] rfl rfl ⟨rfl, rfl, trivial⟩ rfl (grdT rfl rfl rfl (decide_eq_false (fun h => h rfl))) (fun W' kk => g_fae Try.underlying98 rfl ty23 (by decide) rfl sn1) ?_
    refine pa_gt [(61, _), (66, _)] rfl rfl ⟨rfl, rfl, trivial⟩ rfl (grdT rfl rfl rfl (decide_eq_false (fun h => h rfl))) (fun W' kk => g_lde sc23 rfl (by first | exact Rd.keep0 (by assumption) kk | exact Rd.keep0 (Own.rd (by assumption)) kk | exact Rd.keep0 (Rd.keep0 (by assumption) hB) kk | exact Rd.keep0 (Own.rd (Own.keep0 (by assumption) hB)) kk) h0.2.2) ?_
    refine pa_gt [(61, _), (67, _)] rfl rfl ⟨rfl, rfl, trivial⟩ rfl (grdT rfl rfl rfl (decide_eq_false (fun h => h rfl))) (fun W' kk => g_str Try.underlying23 Try.underlying5 Try.underlying9 rfl (by first | exact Rd.keep0 (by assumption) kk | exact Rd.keep0 (Own.rd (by assumption)) kk | exact Rd.keep0 (Rd.keep0 (by assumption) hB) kk | exact Rd.keep0 (Own.rd (Own.keep0 (by assumption) hB)) kk)) ?_
    refine pa_gt [(3, _), (61, _)] rfl rfl ⟨rfl, rfl, trivial⟩ rfl (grdT rfl rfl rfl (decide_eq_false (fun h => h rfl))) (fun W' kk => g_faE 0 Try.underlying25 rfl ty22 (by decide) rfl rfl) ?_
    refine pa_gt [(61, _), (69, _)] rfl rfl ⟨rfl, rfl, trivial⟩ rfl (grdT rfl rfl rfl (decide_eq_false (fun h => h rfl))) (fun W' kk => g_ldb sc22 rfl (Bk.keep0 hbx3 kk) rfl) ?_
    refine pa_gt [(5, _), (61, _)] rfl rfl ⟨rfl, rfl, trivial⟩ rfl (grdT rfl rfl rfl (decide_eq_false (fun h => h rfl))) (fun W' kk => g_mv rfl) ?_
    refine pa_gt [(61, _), (70, _), (71, _)] rfl rfl ⟨rfl, rfl, rfl, trivial⟩ rfl (grdT rfl rfl rfl (decide_eq_false (fun h => h rfl))) (fun W' kk => g_ix Try.underlying22 ty97 rfl (by first | exact Rd.keep0 (by assumption) kk | exact Rd.keep0 (Own.rd (by assumption)) kk | exact Rd.keep0 (Rd.keep0 (by assumption) hB) kk | exact Rd.keep0 (Own.rd (Own.keep0 (by assumption) hB)) kk) rfl (by omega)) ?_
    refine pa_gt [(61, _), (72, _)] rfl rfl ⟨rfl, rfl, trivial⟩ rfl (grdT rfl rfl rfl (decide_eq_false (fun h => h rfl))) (fun W' kk => g_fae Try.underlying97 rfl ty23 (by decide) rfl sn2) ?_
    refine pa_gt [(61, _), (73, _)] rfl rfl ⟨rfl, rfl, trivial⟩ rfl (grdT rfl rfl rfl (decide_eq_false (fun h => h rfl))) (fun W' kk => g_lde sc23 rfl (by first | exact Rd.keep0 (by assumption) kk | exact Rd.keep0 (Own.rd (by assumption)) kk | exact Rd.keep0 (Rd.keep0 (by assumption) hB) kk | exact Rd.keep0 (Own.rd (Own.keep0 (by assumption) hB)) kk) g0.2.2) ?_
    refine pa_gt [(61, _), (74, _)] rfl rfl ⟨rfl, rfl, trivial⟩ rfl (grdT rfl rfl rfl (decide_eq_false (fun h => h rfl))) (fun W' kk => g_str Try.underlying23 Try.underlying5 Try.underlying9 rfl (by first | exact Rd.keep0 (by assumption) kk | exact Rd.keep0 (Own.rd (by assumption)) kk | exact Rd.keep0 (Rd.keep0 (by assumption) hB) kk | exact Rd.keep0 (Own.rd (Own.keep0 (by assumption) hB)) kk)) ?_
    refine pa_gt [(61, _), (68, _), (75, _)] rfl rfl ⟨rfl, rfl, rfl, trivial⟩ rfl (grdT rfl rfl rfl (decide_eq_false (fun h => h rfl))) (fun W' kk => g_nes rfl rfl) ?_
    refine pa_g [(61, _), (76, _)] rfl rfl ⟨rfl, rfl, trivial⟩ rfl (fun W' kk => g_pickF rfl (decide_eq_false (fun h => h rfl)) rfl) ?_
    refine pa_nil (fun w5 k4 => ?_)
    replace hbx2 := hbx2.keep0 k4
    replace hbx3 := hbx3.keep0 k4
    replace hB := hB.trans k4
    refine fina_nil ?_
    refine ow_nil ?_
    refine tw_keep [(2, _), (5, _), (3, _), (77, _)] ⟨rfl, rfl, rfl, rfl, trivial⟩ ?_
    refine tw_ifF rfl ((fun h => h rfl)) ?_
    refine tw_skip ?_
    refine tw_b ?_
    refine tw_region ?_
    refine ow_g (g_mv rfl) rfl ?_
    refine ow_g (g_add rfl rfl (by omega)) rfl ?_
    refine ow_g (g_as rfl) rfl ?_
    refine ow_nil ?_
    refine tw_inv (Γ := Nat) (i + 1) ⟨rfl, rfl, rfl, trivial⟩ (by (try dsimp only); omega) (⟨by omega, hbx2, hbx3, hB⟩)
  · -- no
    refine tw_exit rfl ?_
    refine tw_seq ?_
    refine tw_region ?_
    refine ow_g (g_as rfl) rfl ?_
    refine ow_nil ?_
    refine tw_ret1 hfin Try.results14 rfl ?_
    exact ⟨rfl, hB⟩
end Go.Proofs.Ytimeclfplaonkaa.W
namespace Go.Proofs.Ytimeclfplaonkaa.W
open Go Go.Eng Go.Byt
set_option linter.unusedVariables false
set_option linter.unusedSimpArgs false
set_option maxRecDepth 100000 in
set_option maxHeartbeats 1000000 in
theorem wel_any (sv iv : Value) (ss : List Tri) (info : List UInt8) (w : World) (hs : RdT w sv ss) (hi : RdB w iv info) (hsm : ∀ x ∈ ss, x.1.length ≤ 140737488351232 ∧ x.2.1.length ≤ 140737488351232 ∧ x.2.2.length ≤ 140737488351232) (hcn : ss.length * 72 ≤ 140737488351232) (hil : info.length ≤ 140737488351232) : Rets Try.prog 8 [.agg [sv, iv].toArray] w (fun r w' => ∃ q v, r = .agg [q, v].toArray ∧ OwT 5 w' w.heap.size 98 q ss ∧ OwnB w' w.heap.size v info ∧ Keep [] w w') := by
  have hB : Keep [] w w := Keep.refl _ _
  obtain ⟨css, hEl, hsl⟩ := hs
  refine rets_of_tw Try.func8 rfl (by decide) Try.ntmps8 rfl (fun fin _ hfin => ?_)
  refine tw_seq ?_
  refine tw_region ?_
  refine ow_d (d_box (cs := [sv, iv]) rfl rfl) rfl ?_
  rintro _ w1 ⟨b1, rfl, eb1, hb1, k1, z1⟩
  have ge_b1 : w.heap.size ≤ b1 := by have := hB.size; omega
  replace hB := hB.trans k1
  clear eb1 z1
  refine ow_d (d_alloc ty29) rfl ?_
  rintro _ w2 ⟨b2, rfl, eb2, hb2, k2, z2⟩
  have ge_b2 : w.heap.size ≤ b2 := by have := hB.size; omega
  have ne_b1_b2 : b1 ≠ b2 := by have := hb1.lt; omega
  replace hb1 := hb1.keep0 k2
  replace hB := hB.trans k2
  clear eb2 z2
  refine ow_nil ?_
  refine tw_seq ?_
  refine tw_region ?_
  refine ow_g (g_faE 1 Try.underlying25 rfl ty23 (by decide) rfl rfl) rfl ?_
  refine ow_g (g_ldb sc23 rfl hb1 rfl) rfl ?_
  refine ow_d (d_call (vs := [_]) rfl (copied_any _ _ _ (by first | assumption | exact Own.rd (by assumption) | exact Rd.keep0 (by assumption) hB | exact Own.rd (Own.keep0 (by assumption) hB)) (by omega))) rfl ?_
  rintro v1 w3 ⟨o1, k3⟩
  have gl_o1 := hB.size
  have sb_b1_o1 := fun x hx => (show x ≠ b1 from by have h1 := (o1.blk x hx).1; have h2 := hb1.lt; omega)
  have sb_b2_o1 := fun x hx => (show x ≠ b2 from by have h1 := (o1.blk x hx).1; have h2 := hb2.lt; omega)
  replace hb1 := hb1.keep0 k3
  replace hb2 := hb2.keep0 k3
  replace hB := hB.trans k3
  have u_o1 := o1.blk
  refine ow_g (g_bld (idx := [1]) (xs := [.tmp 7]) (vs := [_]) (css := [[_]]) (out := [_, _]) pl29 ty29 rfl rfl ⟨Rd.cells (by first | assumption | exact Own.rd (by assumption) | exact Rd.keep0 (by assumption) hB | exact Own.rd (Own.keep0 (by assumption) hB)), trivial⟩ rfl rfl) rfl ?_
  refine ow_d (d_alloc ty29) rfl ?_
  rintro _ w4 ⟨b3, rfl, eb3, hb3, k4, z3⟩
  have ge_b3 : w.heap.size ≤ b3 := by have := hB.size; omega
  have ne_b1_b3 : b1 ≠ b3 := by have := hb1.lt; omega
  have ne_b2_b3 : b2 ≠ b3 := by have := hb2.lt; omega
  have sb_b3_o1 := fun x hx => (show x ≠ b3 from by have := (o1.blk x hx).2; omega)
  replace hb1 := hb1.keep0 k4
  replace hb2 := hb2.keep0 k4
  replace o1 := o1.keep0 k4
  replace hB := hB.trans k4
  clear eb3 z3
  refine ow_d0 (d_sta ty29 rfl rfl rfl (by simp only [List.forall_mem_cons]; refine ⟨(by first | rfl | exact Rd.one (by first | assumption | exact Own.rd (by assumption) | exact Rd.keep0 (by assumption) hB | exact Own.rd (Own.keep0 (by assumption) hB))), (by first | rfl | exact Rd.one (by first | assumption | exact Own.rd (by assumption) | exact Rd.keep0 (by assumption) hB | exact Own.rd (Own.keep0 (by assumption) hB))), fun v hv => by cases hv⟩) hb3 rfl) ?_
  rintro _ w5 ⟨hb4, k5, z4⟩
  replace hb1 := hb1.keep k5 (fun hm => absurd (List.mem_singleton.1 hm) ne_b1_b3)
  replace hb2 := hb2.keep k5 (fun hm => absurd (List.mem_singleton.1 hm) ne_b2_b3)
  replace o1 := o1.keep k5 (fun x hx hm => sb_b3_o1 x hx (List.mem_singleton.1 hm))
  replace hB := hB.new k5 (fun x hx => .inl ((List.mem_singleton.1 hx) ▸ ge_b3))
  clear z4
  replace hb4 : Bk w5 b3 _ [.slice none 0 0, v1] := hb4
  refine ow_nil ?_
  refine tw_seq ?_
  refine tw_seq ?_
  refine tw_region ?_
  refine ow_g (g_as rfl) rfl ?_
  refine ow_nil ?_
  refine tw_block ?_
  obtain ⟨Z, hZ⟩ : ∃ Z, Z = w5.heap.size := ⟨_, rfl⟩
  have zb1 : b1 < Z := by have := hb1.lt; omega
  have zb2 : b2 < Z := by have := hb2.lt; omega
  have zb3 : b3 < Z := by have := hb4.lt; omega
  have zo_hbo : ∀ x, x ∈ vblk v1 → x < Z := fun x hx => by have := (o1.blk x hx).2; omega
  have zw := hB.size
  rw [← hZ] at zw
  refine tw_loop (Γ := Nat × Value) (fun ⟨i, q⟩ => [(1, .pointer (some ⟨b1, 0, none⟩)), (2, .pointer (some ⟨b2, 0, none⟩)), (3, .pointer (some ⟨b3, 0, none⟩)), (4, .int .i64 (i : Int))]) (fun ⟨i, q⟩ W => i ≤ ss.length ∧ OwT 5 W Z 98 q (ss.take i) ∧ OwnB W w.heap.size v1 info ∧ Bk W b1 25 [sv, iv] ∧ Bk W b2 29 [.slice none 0 0, .slice none 0 0] ∧ Bk W b3 29 [q, v1] ∧ Z ≤ W.heap.size ∧ Keep [] w W) (fun ⟨i, q⟩ => ss.length - i) ⟨0, .slice none 0 0⟩ ⟨rfl, rfl, rfl, rfl, trivial⟩ (⟨by omega, owT_nil _ _ _ _, o1.lo gl_o1, hb1, hb2, hb4, by omega, hB⟩) ?_
  rintro ⟨i, q⟩ w6 ⟨hi0, ot, ovi, hbx1, hbx2, hbx3, hsz, hB⟩
  refine tw_keep [(1, .pointer (some ⟨b1, 0, none⟩)), (2, .pointer (some ⟨b2, 0, none⟩)), (3, .pointer (some ⟨b3, 0, none⟩)), (4, .int .i64 (i : Int))] ⟨rfl, rfl, rfl, rfl, trivial⟩ ?_
  have u_ot := ot.blk
  have u_ovi := ovi.blk
  have zo_ovi := zo_hbo
  refine tw_seq ?_
  refine tw_seq ?_
  refine tw_region ?_
  refine ow_g (g_mv rfl) rfl ?_
  refine ow_g (g_faE 0 Try.underlying25 rfl ty22 (by decide) rfl rfl) rfl ?_
  refine ow_g (g_ldb sc22 rfl hbx1 rfl) rfl ?_
  refine ow_g (g_len Try.underlying22 rfl (by first | assumption | exact Own.rd (by assumption) | exact Rd.keep0 (by assumption) hB | exact Own.rd (Own.keep0 (by assumption) hB))) rfl ?_
  refine ow_g (g_lt rfl rfl) rfl ?_
  refine ow_nil ?_
  refine tw_if rfl (fun hc1 => ?_) (fun hc1 => ?_)
  · -- yes
    refine tw_skip ?_
    refine tw_seq ?_
    refine tw_block ?_
    refine tw_planA 25 [0, 1, 2, 3, 4, 5, 6, 7, 9, 10, 11, 12, 13, 14, 16, 17, 18, 19, 20, 21, 8, 15, 22, 23, 24] [8, 15, 22, 24] [] [] mixed [(3, _), (1, _), (4, _), (2, _)] ⟨rfl, rfl, rfl, rfl, trivial⟩ (by decide +kernel) (by decide) (by decide) ?_ (fun x hx => by cases hx) rfl (fun w7 k6 => ?_)
    · intro q hq; cases hq
    replace ot := ot.keep0 k6
    replace ovi := ovi.keep0 k6
    replace hbx1 := hbx1.keep0 k6
    replace hbx2 := hbx2.keep0 k6
    replace hbx3 := hbx3.keep0 k6
    replace hB := hB.trans k6
    obtain ⟨x, r, e, b, hx, hd, hr, he, hb0⟩ := tri_at hEl (i := i) (by omega)
    have hxs := hsm x (List.mem_of_getElem? hx)
    have h0 := tri_cell hd
    have sn1 := Rd.some' hsl (by omega)
    have hqb := ot.blk
    have hsw := hsz
    refine pa_g [(3, _)] rfl rfl ⟨rfl, trivial⟩ rfl (fun W' kk => g_faE 0 Try.underlying29 rfl ty27 (by decide) rfl rfl) ?_
    refine pa_g [(16, _)] rfl rfl ⟨rfl, trivial⟩ rfl (fun W' kk => g_ldb sc27 rfl (Bk.keep0 hbx3 kk) rfl) ?_
    refine pa_g [(1, _)] rfl rfl ⟨rfl, trivial⟩ rfl (fun W' kk => g_faE 0 Try.underlying25 rfl ty22 (by decide) rfl rfl) ?_
    refine pa_g [(18, _)] rfl rfl ⟨rfl, trivial⟩ rfl (fun W' kk => g_ldb sc22 rfl (Bk.keep0 hbx1 kk) rfl) ?_
    refine pa_g [(4, _)] rfl rfl ⟨rfl, trivial⟩ rfl (fun W' kk => g_mv rfl) ?_
    refine pa_g [(19, _), (20, _)] rfl rfl ⟨rfl, rfl, trivial⟩ rfl (fun W' kk => g_ix Try.underlying22 ty97 rfl (by first | exact Rd.keep0 (by assumption) kk | exact Rd.keep0 (Own.rd (by assumption)) kk | exact Rd.keep0 (Rd.keep0 (by assumption) hB) kk | exact Rd.keep0 (Own.rd (Own.keep0 (by assumption) hB)) kk) rfl (by omega)) ?_
    refine pa_g [(21, _)] rfl rfl ⟨rfl, trivial⟩ rfl (fun W' kk => g_fae Try.underlying97 rfl ty23 (by decide) rfl sn1) ?_
    refine pa_g [(22, _)] rfl rfl ⟨rfl, trivial⟩ rfl (fun W' kk => g_lde sc23 rfl (by first | exact Rd.keep0 (by assumption) kk | exact Rd.keep0 (Own.rd (by assumption)) kk | exact Rd.keep0 (Rd.keep0 (by assumption) hB) kk | exact Rd.keep0 (Own.rd (Own.keep0 (by assumption) hB)) kk) h0.1) ?_
    refine pa_g [(1, _)] rfl rfl ⟨rfl, trivial⟩ rfl (fun W' kk => g_faE 0 Try.underlying25 rfl ty22 (by decide) rfl rfl) ?_
    refine pa_g [(25, _)] rfl rfl ⟨rfl, trivial⟩ rfl (fun W' kk => g_ldb sc22 rfl (Bk.keep0 hbx1 kk) rfl) ?_
    refine pa_g [(4, _)] rfl rfl ⟨rfl, trivial⟩ rfl (fun W' kk => g_mv rfl) ?_
    refine pa_g [(26, _), (27, _)] rfl rfl ⟨rfl, rfl, trivial⟩ rfl (fun W' kk => g_ix Try.underlying22 ty97 rfl (by first | exact Rd.keep0 (by assumption) kk | exact Rd.keep0 (Own.rd (by assumption)) kk | exact Rd.keep0 (Rd.keep0 (by assumption) hB) kk | exact Rd.keep0 (Own.rd (Own.keep0 (by assumption) hB)) kk) rfl (by omega)) ?_
    refine pa_g [(28, _)] rfl rfl ⟨rfl, trivial⟩ rfl (fun W' kk => g_fae Try.underlying97 rfl ty23 (by decide) rfl sn1) ?_
    refine pa_g [(29, _)] rfl rfl ⟨rfl, trivial⟩ rfl (fun W' kk => g_lde sc23 rfl (by first | exact Rd.keep0 (by assumption) kk | exact Rd.keep0 (Own.rd (by assumption)) kk | exact Rd.keep0 (Rd.keep0 (by assumption) hB) kk | exact Rd.keep0 (Own.rd (Own.keep0 (by assumption) hB)) kk) h0.2.1) ?_
    refine pa_g [(1, _)] rfl rfl ⟨rfl, trivial⟩ rfl (fun W' kk => g_faE 0 Try.underlying25 rfl ty22 (by decide) rfl rfl) ?_
    refine pa_g [(32, _)] rfl rfl ⟨rfl, trivial⟩ rfl (fun W' kk => g_ldb sc22 rfl (Bk.keep0 hbx1 kk) rfl) ?_
    refine pa_g [(4, _)] rfl rfl ⟨rfl, trivial⟩ rfl (fun W' kk => g_mv rfl) ?_
    refine pa_g [(33, _), (34, _)] rfl rfl ⟨rfl, rfl, trivial⟩ rfl (fun W' kk => g_ix Try.underlying22 ty97 rfl (by first | exact Rd.keep0 (by assumption) kk | exact Rd.keep0 (Own.rd (by assumption)) kk | exact Rd.keep0 (Rd.keep0 (by assumption) hB) kk | exact Rd.keep0 (Own.rd (Own.keep0 (by assumption) hB)) kk) rfl (by omega)) ?_
    refine pa_g [(35, _)] rfl rfl ⟨rfl, trivial⟩ rfl (fun W' kk => g_fae Try.underlying97 rfl ty23 (by decide) rfl sn1) ?_
    refine pa_g [(36, _)] rfl rfl ⟨rfl, trivial⟩ rfl (fun W' kk => g_lde sc23 rfl (by first | exact Rd.keep0 (by assumption) kk | exact Rd.keep0 (Own.rd (by assumption)) kk | exact Rd.keep0 (Rd.keep0 (by assumption) hB) kk | exact Rd.keep0 (Own.rd (Own.keep0 (by assumption) hB)) kk) h0.2.2) ?_
    refine pa_d [(23, _)] rfl rfl ⟨rfl, trivial⟩ rfl (fun w9 k8 => ?_)
    replace ot := ot.keep0 k8
    replace ovi := ovi.keep0 k8
    replace hbx1 := hbx1.keep0 k8
    replace hbx2 := hbx2.keep0 k8
    replace hbx3 := hbx3.keep0 k8
    replace hB := hB.trans k8
    refine (d_call (vs := [_]) rfl (copied_any _ _ _ (by first | assumption | exact Own.rd (by assumption) | exact Rd.keep0 (by assumption) hB | exact Own.rd (Own.keep0 (by assumption) hB)) (by omega))).mono ?_
    rintro v2 w8 ⟨o2, k7⟩
    refine ⟨k7, (fun x hx => ⟨.inr (o2.blk x (o2.rd.cblk ▸ hx)).1, (o2.blk x (o2.rd.cblk ▸ hx)).2⟩), ?_⟩
    have gl_o2 := hB.size
    have sb_b1_o2 := fun x hx => (show x ≠ b1 from by have h1 := (o2.blk x hx).1; have h2 := hbx1.lt; omega)
    have sb_b2_o2 := fun x hx => (show x ≠ b2 from by have h1 := (o2.blk x hx).1; have h2 := hbx2.lt; omega)
    have sb_b3_o2 := fun x hx => (show x ≠ b3 from by have h1 := (o2.blk x hx).1; have h2 := hbx3.lt; omega)
    replace ot := ot.keep0 k7
    replace ovi := ovi.keep0 k7
    replace hbx1 := hbx1.keep0 k7
    replace hbx2 := hbx2.keep0 k7
    replace hbx3 := hbx3.keep0 k7
    replace hB := hB.trans k7
    have u_o2 := o2.blk
    refine pa_d [(30, _)] rfl rfl ⟨rfl, trivial⟩ rfl (fun w11 k10 => ?_)
    replace ot := ot.keep0 k10
    replace ovi := ovi.keep0 k10
    replace hbx1 := hbx1.keep0 k10
    replace hbx2 := hbx2.keep0 k10
    replace hbx3 := hbx3.keep0 k10
    replace o2 := o2.keep0 k10
    replace hB := hB.trans k10
    refine (d_call (vs := [_]) rfl (copied_any _ _ _ (by first | assumption | exact Own.rd (by assumption) | exact Rd.keep0 (by assumption) hB | exact Own.rd (Own.keep0 (by assumption) hB)) (by omega))).mono ?_
    rintro v3 w10 ⟨o3, k9⟩
    refine ⟨k9, (fun x hx => ⟨.inr (o3.blk x (o3.rd.cblk ▸ hx)).1, (o3.blk x (o3.rd.cblk ▸ hx)).2⟩), ?_⟩
    have gl_o3 := hB.size
    have sb_b1_o3 := fun x hx => (show x ≠ b1 from by have h1 := (o3.blk x hx).1; have h2 := hbx1.lt; omega)
    have sb_b2_o3 := fun x hx => (show x ≠ b2 from by have h1 := (o3.blk x hx).1; have h2 := hbx2.lt; omega)
    have sb_b3_o3 := fun x hx => (show x ≠ b3 from by have h1 := (o3.blk x hx).1; have h2 := hbx3.lt; omega)
    replace ot := ot.keep0 k9
    replace ovi := ovi.keep0 k9
    replace hbx1 := hbx1.keep0 k9
    replace hbx2 := hbx2.keep0 k9
    replace hbx3 := hbx3.keep0 k9
    replace o2 := o2.keep0 k9
    replace hB := hB.trans k9
    have u_o3 := o3.blk
    refine pa_d [(37, _)] rfl rfl ⟨rfl, trivial⟩ rfl (fun w13 k12 => ?_)
    replace ot := ot.keep0 k12
    replace ovi := ovi.keep0 k12
    replace hbx1 := hbx1.keep0 k12
    replace hbx2 := hbx2.keep0 k12
    replace hbx3 := hbx3.keep0 k12
    replace o2 := o2.keep0 k12
    replace o3 := o3.keep0 k12
    replace hB := hB.trans k12
    refine (d_call (vs := [_]) rfl (copied_any _ _ _ (by first | assumption | exact Own.rd (by assumption) | exact Rd.keep0 (by assumption) hB | exact Own.rd (Own.keep0 (by assumption) hB)) (by omega))).mono ?_
    rintro v4 w12 ⟨o4, k11⟩
    refine ⟨k11, (fun x hx => ⟨.inr (o4.blk x (o4.rd.cblk ▸ hx)).1, (o4.blk x (o4.rd.cblk ▸ hx)).2⟩), ?_⟩
    have gl_o4 := hB.size
    have sb_b1_o4 := fun x hx => (show x ≠ b1 from by have h1 := (o4.blk x hx).1; have h2 := hbx1.lt; omega)
    have sb_b2_o4 := fun x hx => (show x ≠ b2 from by have h1 := (o4.blk x hx).1; have h2 := hbx2.lt; omega)
    have sb_b3_o4 := fun x hx => (show x ≠ b3 from by have h1 := (o4.blk x hx).1; have h2 := hbx3.lt; omega)
    replace ot := ot.keep0 k11
    replace ovi := ovi.keep0 k11
    replace hbx1 := hbx1.keep0 k11
    replace hbx2 := hbx2.keep0 k11
    replace hbx3 := hbx3.keep0 k11
    replace o2 := o2.keep0 k11
    replace o3 := o3.keep0 k11
    replace hB := hB.trans k11
    have u_o4 := o4.blk
    refine pa_g [(24, _), (31, _), (38, _)] rfl rfl ⟨rfl, rfl, rfl, trivial⟩ rfl (fun W' kk => g_bld (idx := [0, 1, 2]) (xs := [.tmp 24, .tmp 31, .tmp 38]) (vs := [_, _, _]) (css := [[_], [_], [_]]) (out := [v2, v3, v4]) pl98 ty98 rfl rfl ⟨Rd.cells (Own.rd o2), Rd.cells (Own.rd o3), Rd.cells (Own.rd o4), trivial⟩ rfl rfl) ?_
    refine pa_d [(39, _)] rfl rfl ⟨rfl, trivial⟩ rfl (fun w15 k14 => ?_)
    replace ot := ot.keep0 k14
    replace ovi := ovi.keep0 k14
    replace hbx1 := hbx1.keep0 k14
    replace hbx2 := hbx2.keep0 k14
    replace hbx3 := hbx3.keep0 k14
    replace o2 := o2.keep0 k14
    replace o3 := o3.keep0 k14
    replace o4 := o4.keep0 k14
    replace hB := hB.trans k14
    refine (d_bs (m := 1) (xs := [.tmp 39]) (vs := [_]) Try.underlying27 ty98 (by decide) rfl rfl rfl (by first | (simp; done) | (intro v hv; rw [List.mem_singleton] at hv; subst hv; rfl)) (by decide)).mono ?_
    rintro v5 w14 ⟨o5, nn1, lb1, k13, z5⟩
    refine ⟨k13, (fun x hx => ⟨.inr (o5.blk x (o5.rd.cblk ▸ hx)).1, (o5.blk x (o5.rd.cblk ▸ hx)).2⟩), ?_⟩
    have gl_o5 := hB.size
    have sb_b1_o5 := fun x hx => (show x ≠ b1 from by have h1 := (o5.blk x hx).1; have h2 := hbx1.lt; omega)
    have sb_b2_o5 := fun x hx => (show x ≠ b2 from by have h1 := (o5.blk x hx).1; have h2 := hbx2.lt; omega)
    have sb_b3_o5 := fun x hx => (show x ≠ b3 from by have h1 := (o5.blk x hx).1; have h2 := hbx3.lt; omega)
    replace ot := ot.keep0 k13
    replace ovi := ovi.keep0 k13
    replace hbx1 := hbx1.keep0 k13
    replace hbx2 := hbx2.keep0 k13
    replace hbx3 := hbx3.keep0 k13
    replace o2 := o2.keep0 k13
    replace o3 := o3.keep0 k13
    replace o4 := o4.keep0 k13
    replace hB := hB.trans k13
    have u_o5 := o5.blk
    refine pa_nil (fun w16 k15 => ?_)
    replace ot := ot.keep0 k15
    replace ovi := ovi.keep0 k15
    replace hbx1 := hbx1.keep0 k15
    replace hbx2 := hbx2.keep0 k15
    replace hbx3 := hbx3.keep0 k15
    replace o2 := o2.keep0 k15
    replace o3 := o3.keep0 k15
    replace o4 := o4.keep0 k15
    replace o5 := o5.keep0 k15
    replace hB := hB.trans k15
    refine fina_nil ?_
    have zk6 := k6.size
    have zk7 := k7.size
    have zk8 := k8.size
    have zk9 := k9.size
    have zk10 := k10.size
    have zk11 := k11.size
    have zk12 := k12.size
    have zk13 := k13.size
    have zk14 := k14.size
    have zk15 := k15.size
    have hob : Rd _ 3 _ 1 [v2, v3, v4] := o5.rd
    refine ow_d (d_appT (t8 := 5) (z := x) Try.underlying27 ty98 rfl rfl ot rfl hob (o2.lo (by omega)) (o3.lo (by omega)) (o4.lo (by omega)) (fun y hy hm => by have h1 := (o2.blk y hy).1; have h2 := (hqb y hm).2; omega) (fun y hy hm => by have h1 := (o3.blk y hy).1; have h2 := (hqb y hm).2; omega) (fun y hy hm => by have h1 := (o4.blk y hy).1; have h2 := (hqb y hm).2; omega) (by rw [List.length_take]; omega) (by omega)) rfl ?_
    rintro q1 w17 ⟨ot1, k16, lb2⟩
    have zk_k16 := k16.size
    replace hB := hB.new k16 (fun x hx => .inl (by have := (ot.blk x hx).1; omega))
    replace ovi := ovi.keep k16 (fun x hx hm => by have h1 := (ot.blk _ hm).1; have h2 := zo_ovi x hx; omega)
    replace hbx1 := hbx1.keep k16 (fun hm => by have := (ot.blk _ hm).1; omega)
    replace hbx2 := hbx2.keep k16 (fun hm => by have := (ot.blk _ hm).1; omega)
    replace hbx3 := hbx3.keep k16 (fun hm => by have := (ot.blk _ hm).1; omega)
    refine ow_g (g_faE 0 Try.underlying29 rfl ty27 (by decide) rfl rfl) rfl ?_
    refine ow_d0 (d_st ty27 rfl rfl ot1.one hbx3 rfl) ?_
    rintro _ w18 ⟨hb5, k17, z6⟩
    have zk_k17 := k17.size
    replace ovi := ovi.keep k17 (fun x hx hm => sb_b3_o1 x hx (List.mem_singleton.1 hm))
    replace hbx1 := hbx1.keep k17 (fun hm => absurd (List.mem_singleton.1 hm) ne_b1_b3)
    replace hbx2 := hbx2.keep k17 (fun hm => absurd (List.mem_singleton.1 hm) ne_b2_b3)
    replace ot1 := ot1.keep k17 (fun x hx hm => (fun x hx => (show x ≠ b3 from by omega)) x hx (List.mem_singleton.1 hm))
    replace hB := hB.new k17 (fun x hx => .inl ((List.mem_singleton.1 hx) ▸ ge_b3))
    replace hb5 : Bk w18 b3 _ [q1, v1] := hb5
    clear z6
    refine ow_nil ?_
    refine tw_keep [(3, _), (1, _), (4, _), (2, _)] ⟨rfl, rfl, rfl, rfl, trivial⟩ ?_
    refine tw_b ?_
    refine tw_region ?_
    refine ow_g (g_mv rfl) rfl ?_
    refine ow_g (g_add rfl rfl (by omega)) rfl ?_
    refine ow_g (g_as rfl) rfl ?_
    refine ow_nil ?_
    refine tw_inv (Γ := Nat × Value) ⟨i + 1, q1⟩ ⟨rfl, rfl, rfl, rfl, trivial⟩ (by (try dsimp only); omega) (⟨by omega, by rw [take_get hx]; exact ot1, ovi, hbx1, hbx2, hb5, by omega, hB⟩)
  · -- no
    refine tw_exit rfl ?_
    refine tw_seq ?_
    refine tw_region ?_
    refine ow_g (g_ldab (cs' := [_, _]) ag29 ty29 rfl hbx3 rfl rfl) rfl ?_
    refine ow_d0 (d_sta ty29 rfl rfl rfl (by simp only [List.forall_mem_cons]; refine ⟨ot.one, Rd.one ovi.rd, fun v hv => by cases hv⟩) hbx2 rfl) ?_
    rintro _ w19 ⟨hb6, k18, z7⟩
    replace ot := ot.keep k18 (fun x hx hm => (fun x hx => (show x ≠ b2 from by omega)) x hx (List.mem_singleton.1 hm))
    replace ovi := ovi.keep k18 (fun x hx hm => sb_b2_o1 x hx (List.mem_singleton.1 hm))
    replace hbx1 := hbx1.keep k18 (fun hm => absurd (List.mem_singleton.1 hm) ne_b1_b2)
    replace hbx3 := hbx3.keep k18 (fun hm => absurd (List.mem_singleton.1 hm) (Ne.symm ne_b2_b3))
    replace hB := hB.new k18 (fun x hx => .inl ((List.mem_singleton.1 hx) ▸ ge_b2))
    clear z7
    replace hb6 : Bk w19 b2 _ [q, v1] := hb6
    refine ow_nil ?_
    refine tw_retc hfin Try.results8 rfl (run_loadAgg ag29 ty29 (by assumption) rfl)  ?_
    have e : ss.take i = ss := List.take_of_length_le (by omega)
    rw [e] at ot
    exact ⟨_, _, rfl, ot.lo zw, ovi, hB⟩
end Go.Proofs.Ytimeclfplaonkaa.W
namespace Go.Proofs.Ytimeclfplaonkaa.W
open Go Go.Eng Go.Byt
set_option linter.unusedVariables false
set_option linter.unusedSimpArgs false
set_option maxRecDepth 100000 in
set_option maxHeartbeats 1000000 in
theorem again_any (sv iv : Value) (ss : List Tri) (info : List UInt8) (w : World) (hs : RdT w sv ss) (hi : RdB w iv info) (hsm : ∀ x ∈ ss, x.1.length ≤ 140737488351232 ∧ x.2.1.length ≤ 140737488351232 ∧ x.2.2.length ≤ 140737488351232) (v : Value) (c : List UInt8) (hv : RdB w v c) : Rets Try.prog 45 [.agg [sv, iv].toArray, .func (.func 9) #[] #[], v] w (fun r w' => r = .tuple #[.agg (bif (welOk ss info && decide (welB ss info = c)) then [sv, iv] else [.slice none 0 0, .slice none 0 0]).toArray, .int .i64 (bif (welOk ss info && decide (welB ss info = c)) then 0 else 21)] ∧ Keep [] w w') := by
 have hB : Keep [] w w := Keep.refl _ _
 have hs' := hs
 obtain ⟨css, hEl, hsl⟩ := hs'
 refine rets_of_tw Try.func45 rfl (by decide) Try.ntmps45 rfl (fun fin _ hfin => ?_)
 refine tw_seq (tw_region (ow_d (d_box (cs := [sv, iv]) rfl rfl) rfl ?_))
 rintro _ w1 ⟨b1, rfl, eb1, hb1, k1, z1⟩
 have ge_b1 : w.heap.size ≤ b1 := by have := hB.size; omega
 replace hB := hB.trans k1
 clear eb1 z1
 refine ow_d (d_alloc ty29) rfl ?_
 rintro _ w2 ⟨b2, rfl, eb2, hb2, k2, z2⟩
 have ge_b2 : w.heap.size ≤ b2 := by have := hB.size; omega
 have ne_b1_b2 : b1 ≠ b2 := by have := hb1.lt; omega
 replace hb1 := hb1.keep0 k2
 replace hB := hB.trans k2
 clear eb2 z2
 refine ow_g (g_as rfl) rfl (ow_nil (tw_seq (tw_region (ow_d (d_alloc ty29) rfl ?_))))
 rintro _ w3 ⟨b3, rfl, eb3, hb3, k3, z3⟩
 have ge_b3 : w.heap.size ≤ b3 := by have := hB.size; omega
 have ne_b1_b3 : b1 ≠ b3 := by have := hb1.lt; omega
 have ne_b2_b3 : b2 ≠ b3 := by have := hb2.lt; omega
 replace hb1 := hb1.keep0 k3
 replace hb2 := hb2.keep0 k3
 replace hB := hB.trans k3
 clear eb3 z3
 refine ow_nil (tw_seq (tw_seq (tw_region (ow_g (g_mv rfl) rfl (ow_g (g_ldab (cs' := [_, _]) ag29 ty29 rfl hb1 rfl rfl) rfl ?_)))))
 refine ow_d (d_callv rfl rfl (gput_any sv iv ss info _ (RdT.keep0 hs hB) (Rd.keep0 hi hB) hsm)) rfl ?_
 rintro _ w4 ⟨v1, rfl, o1, k4⟩
 have gl_o1 := hB.size
 have sb_b1_o1 := fun x hx => (show x ≠ b1 from by have h1 := (o1.blk x hx).1; have h2 := hb1.lt; omega)
 have sb_b2_o1 := fun x hx => (show x ≠ b2 from by have h1 := (o1.blk x hx).1; have h2 := hb2.lt; omega)
 have sb_b3_o1 := fun x hx => (show x ≠ b3 from by have h1 := (o1.blk x hx).1; have h2 := hb3.lt; omega)
 replace hb1 := hb1.keep0 k4
 replace hb2 := hb2.keep0 k4
 replace hb3 := hb3.keep0 k4
 replace hB := hB.trans k4
 have u_o1 := o1.blk
 refine ow_g (g_mv rfl) rfl (ow_g (g_ext (vs := [_, _]) rfl rfl) rfl ?_)
 refine ow_g (g_ext (vs := [_, _]) rfl rfl) rfl ?_
 refine ow_g (g_as rfl) rfl (ow_g (g_as rfl) rfl (ow_nil (tw_seq (tw_region (ow_g (g_mv rfl) rfl (ow_g (g_ne rfl rfl) rfl ?_))))))
 refine ow_g (g_mv rfl) rfl (ow_grp 19 false rfl (fun c1 hgc1 => ?_))
 refine ow_gg [(9, _)] (grd1 rfl rfl rfl hgc1) ⟨und0 rfl, trivial⟩ (fun hw1 => g_mv rfl) rfl ?_
 refine ow_gg [(2, _)] (grd1 rfl rfl rfl hgc1) ⟨und0 rfl, trivial⟩ (fun hw2 => g_mv rfl) rfl ?_
 refine ow_gds [(20, _), (21, _)] (grd1 rfl rfl rfl hgc1) ⟨und1 rfl, und1 rfl, trivial⟩ (fun hw3 => d_call (vs := [_, _]) rfl (beq_any _ _ (welB ss info) c _ (o1.rd) (by first | assumption | exact Own.rd ‹_› | exact Rd.keep0 ‹_› hB | exact Own.rd (Own.keep0 ‹_› hB)))) rfl ?_
 refine ow_gg [(22, _)] (grd1 rfl rfl rfl hgc1) ⟨und1 rfl, trivial⟩ (fun hw4 => g_notd rfl) rfl ?_
 refine ow_g (g_por rfl rfl hgc1) rfl ?_
 refine ow_nil (tw_keep [(3, _), (6, _), (8, _), (24, _)] ⟨rfl, rfl, rfl, rfl, trivial⟩ ?_)
 refine tw_cond rfl (fun hc1 => ?_) (fun hc1 => ?_)
 ·
  have hd1 := hc1
  try (simp only [Bool.and_eq_true, Bool.or_eq_true, decide_eq_true_eq, Bool.and_eq_false_iff, Bool.or_eq_false_iff, decide_eq_false_iff_not, Bool.not_eq_true', Bool.not_eq_false', Bool.not_eq_true, Bool.not_eq_false, ne_eq, Decidable.not_not, decide_true, decide_false, Bool.true_and, Bool.false_and, Bool.or_false, Bool.false_or, not_true_eq_false, false_or, or_false, true_and, and_true, not_false_eq_true, reduceCtorEq] at hd1)
  refine tw_seq (tw_region (ow_g (g_ldab (cs' := [_, _]) ag29 ty29 rfl hb3 rfl rfl) rfl ?_))
  refine ow_d0 (d_sta ty29 rfl rfl rfl (by simp only [List.forall_mem_cons]; refine ⟨rfl, rfl, fun v hv => by cases hv⟩) hb2 rfl) ?_
  rintro _ w5 ⟨hb4, k5, z4⟩
  replace hb1 := hb1.keep k5 (fun hm => absurd (List.mem_singleton.1 hm) ne_b1_b2)
  replace hb3 := hb3.keep k5 (fun hm => absurd (List.mem_singleton.1 hm) (Ne.symm ne_b2_b3))
  replace o1 := o1.keep k5 (fun x hx hm => sb_b2_o1 x hx (List.mem_singleton.1 hm))
  replace hB := hB.new k5 (fun x hx => .inl ((List.mem_singleton.1 hx) ▸ ge_b2))
  clear z4
  replace hb4 : Bk w5 b2 _ [.slice none 0 0, .slice none 0 0] := hb4
  refine ow_g (g_as rfl) rfl (ow_nil (tw_retct hfin Try.results45 rfl (run_loadAgg ag29 ty29 ‹_› rfl) rfl ?_))
  have hok : (welOk ss info && decide (welB ss info = c)) = false := by
   unfold welE at hc1
   cases hw : welOk ss info <;> simp_all
  exact ⟨by rw [hok]; rfl, hB⟩
 ·
  have hd2 := hc1
  try (simp only [Bool.and_eq_true, Bool.or_eq_true, decide_eq_true_eq, Bool.and_eq_false_iff, Bool.or_eq_false_iff, decide_eq_false_iff_not, Bool.not_eq_true', Bool.not_eq_false', Bool.not_eq_true, Bool.not_eq_false, ne_eq, Decidable.not_not, decide_true, decide_false, Bool.true_and, Bool.false_and, Bool.or_false, Bool.false_or, not_true_eq_false, false_or, or_false, true_and, and_true, not_false_eq_true, reduceCtorEq] at hd2)
  refine tw_skip (tw_seq (tw_region (ow_g (g_ldab (cs' := [_, _]) ag29 ty29 rfl hb1 rfl rfl) rfl ?_)))
  refine ow_d0 (d_sta ty29 rfl rfl rfl (by simp only [List.forall_mem_cons]; refine ⟨Rd.one hsl, Rd.one hi, fun v hv => by cases hv⟩) hb2 rfl) ?_
  rintro _ w6 ⟨hb5, k6, z5⟩
  replace hb1 := hb1.keep k6 (fun hm => absurd (List.mem_singleton.1 hm) ne_b1_b2)
  replace hb3 := hb3.keep k6 (fun hm => absurd (List.mem_singleton.1 hm) (Ne.symm ne_b2_b3))
  replace o1 := o1.keep k6 (fun x hx hm => sb_b2_o1 x hx (List.mem_singleton.1 hm))
  replace hB := hB.new k6 (fun x hx => .inl ((List.mem_singleton.1 hx) ▸ ge_b2))
  clear z5
  replace hb5 : Bk w6 b2 _ [sv, iv] := hb5
  refine ow_g (g_as rfl) rfl (ow_nil (tw_retct hfin Try.results45 rfl (run_loadAgg ag29 ty29 ‹_› rfl) rfl ?_))
  have hok : (welOk ss info && decide (welB ss info = c)) = true := by
   unfold welE at hc1
   cases hw : welOk ss info <;> simp_all
  exact ⟨by rw [hok]; rfl, hB⟩
end Go.Proofs.Ytimeclfplaonkaa.W
namespace Go.Proofs.Ytimeclfplaonkaa.W
open Go Go.Eng Go.Byt
set_option linter.unusedVariables false
set_option linter.unusedSimpArgs false
theorem again_k (sv iv : Value) (ss : List Tri) (info : List UInt8) (w : World) (hs : RdT w sv ss) (hi : RdB w iv info) (hsm : ∀ x ∈ ss, x.1.length ≤ 140737488351232 ∧ x.2.1.length ≤ 140737488351232 ∧ x.2.2.length ≤ 140737488351232) (v : Value) (c : List UInt8) (hv : RdB w v c) : Rets Try.prog 45 [.agg [sv, iv].toArray, .func (.func 9) #[] #[], v] w (fun r w' => ∃ q u, r = .tuple #[.agg [q, u].toArray, .int .i64 (bif (welOk ss info && decide (welB ss info = c)) then 0 else 21)] ∧ q.oneCell' = true ∧ u.oneCell' = true ∧ ((welOk ss info && decide (welB ss info = c)) = true ∧ q = sv ∧ u = iv ∨ (welOk ss info && decide (welB ss info = c)) = false ∧ q = .slice none 0 0 ∧ u = .slice none 0 0) ∧ Keep [] w w') := by
  have h1 : sv.oneCell' = true := by obtain ⟨_, _, h⟩ := hs; exact h.one
  refine (again_any sv iv ss info w hs hi hsm v c hv).mono fun r w' ⟨h, k⟩ => ?_
  cases hOK : (welOk ss info && decide (welB ss info = c))
  · rw [hOK] at h; exact ⟨_, _, h, rfl, rfl, .inr ⟨rfl, rfl, rfl⟩, k⟩
  · rw [hOK] at h; exact ⟨_, _, h, h1, hi.one, .inl ⟨rfl, rfl, rfl⟩, k⟩
theorem rdT_nil (w : World) : RdT w (.slice none 0 0) [] := ⟨[], els_nil _ _, Rd.nil _ _⟩
set_option maxRecDepth 100000 in
set_option maxHeartbeats 1000000 in
theorem getw_any (v : Value) (c : List UInt8) (w : World) (hv : RdB w v c) (hc : c.length ≤ 140737488351232) : Rets Try.prog 11 [v] w (fun r w' => ∃ q u, r = .tuple #[.agg [q, u].toArray, .int .i64 (getE c)] ∧ RdT w' q (getS c) ∧ RdB w' u (getI c) ∧ Keep [] w w') := by
  have hB : Keep [] w w := Keep.refl _ _
  refine rets_of_tw Try.func11 rfl (by decide) Try.ntmps11 rfl (fun fin _ hfin => ?_)
  refine tw_seq ?_
  refine tw_region ?_
  refine ow_d (d_alloc ty29) rfl ?_
  rintro _ w1 ⟨b1, rfl, eb1, hb1, k1, z1⟩
  have ge_b1 : w.heap.size ≤ b1 := by have := hB.size; omega
  replace hB := hB.trans k1
  clear eb1 z1
  refine ow_g (g_as rfl) rfl ?_
  refine ow_nil ?_
  refine tw_seq ?_
  refine tw_region ?_
  refine ow_g (g_mv rfl) rfl ?_
  have zb1 := hb1.lt; have hs8 := hB.size
  refine ow_d (d_call (vs := [_]) rfl (newL_any _ c _ (by first | assumption | exact Own.rd (by assumption) | exact Rd.keep0 (by assumption) hB | exact Own.rd (Own.keep0 (by assumption) hB)) (by omega))) rfl ?_
  rintro _ w2 ⟨p1, rfl, rr, k2⟩
  replace hb1 := hb1.keep0 k2
  replace hB := hB.trans k2
  have gp1 := rr.1
  replace rr := rr.rdr
  refine ow_g (g_as rfl) rfl ?_
  refine ow_nil ?_
  refine tw_seq ?_
  refine tw_region ?_
  refine ow_g (g_mv rfl) rfl ?_
  refine ow_d (d_call (vs := [_]) rfl (vector_any _ c 0 _ rr (by omega))) rfl ?_
  rintro jw w3 ⟨_, rfl, ov1, rr, km1⟩
  have z_km1 := km1.size
  replace hb1 := hb1.keep km1 (fun hm => by have h9 := List.mem_singleton.1 hm; omega)
  replace hB := hB.new km1 (fun x hm => .inl (by have h9 := List.mem_singleton.1 hm; omega))
  have lt11 := rr.lt; have hlq := rVec_out c 0
  refine ow_d (d_call (vs := [_]) rfl (newL_any _ (rVec c 0).1 _ ov1.rd (by omega))) rfl ?_
  rintro _ w4 ⟨p2, rfl, rl, k3⟩
  replace hb1 := hb1.keep0 k3
  replace rr := rr.keep0 k3
  replace hB := hB.trans k3
  have gp2 := rl.1
  refine ow_g (g_as rfl) rfl ?_
  refine ow_nil ?_
  refine tw_seq ?_
  refine tw_region ?_
  refine ow_g (g_mv rfl) rfl ?_
  have lt13 := rl.rdr.lt
  refine ow_d (d_call (vs := [_]) rfl (vector_any _ _ _ _ rr (by have h1 := rVec_len c 0; omega))) rfl ?_
  rintro iw w5 ⟨_, rfl, o2, rr, km2⟩
  have z_km2 := km2.size
  replace hb1 := hb1.keep km2 (fun hm => by have h9 := List.mem_singleton.1 hm; omega)
  replace rl := rl.keep km2 (fun x hx hm => by have h9 := List.mem_singleton.1 hm; omega)
  replace hB := hB.new km2 (fun x hm => .inl (by have h9 := List.mem_singleton.1 hm; omega))
  have np_ovi : ∀ x, x ∈ vblk iw → p2 < x := fun x hx => by have := (o2.blk x hx).1; omega
  have gl_o2 := hB.size
  have go2 : ∀ x, x ∈ vblk iw → w.heap.size ≤ x := fun x hx => by have := np_ovi x hx; omega
  replace rl := rl.rdr
  refine ow_g (g_bld (idx := [1]) (xs := [.tmp 13]) (vs := [_]) (css := [[_]]) (out := [_, _]) pl29 ty29 rfl rfl ⟨Rd.cells (by first | assumption | exact Own.rd (by assumption) | exact Rd.keep0 (by assumption) hB | exact Own.rd (Own.keep0 (by assumption) hB)), trivial⟩ rfl rfl) rfl ?_
  have lt14 := rl.lt
  refine ow_d (d_alloc ty29) rfl ?_
  rintro _ w6 ⟨b2, rfl, eb2, hb2, k4, z2⟩
  have zp2 : p2 < b2 := by omega
  have ge_b2 : w.heap.size ≤ b2 := by have := hB.size; omega
  have ne_b1_b2 : b1 ≠ b2 := by have := hb1.lt; omega
  have sb_b2_o2 := fun x hx => (show x ≠ b2 from by have := (o2.blk x hx).2; omega)
  replace hb1 := hb1.keep0 k4
  replace rl := rl.keep0 k4
  replace o2 := o2.keep0 k4
  replace hB := hB.trans k4
  clear eb2 z2
  refine ow_d0 (d_sta ty29 rfl rfl rfl (by simp only [List.forall_mem_cons]; refine ⟨(by first | rfl | exact Rd.one (by first | assumption | exact Own.rd (by assumption) | exact Rd.keep0 (by assumption) hB | exact Own.rd (Own.keep0 (by assumption) hB))), (by first | rfl | exact Rd.one (by first | assumption | exact Own.rd (by assumption) | exact Rd.keep0 (by assumption) hB | exact Own.rd (Own.keep0 (by assumption) hB))), fun v hv => by cases hv⟩) hb2 rfl) ?_
  rintro _ w7 ⟨hb3, k5, z3⟩
  replace hb1 := hb1.keep k5 (fun hm => absurd (List.mem_singleton.1 hm) ne_b1_b2)
  replace rl := rl.keep k5 (fun x hx hm => (fun x (hx : x ≤ p2) => (show x ≠ b2 from by omega)) x hx (List.mem_singleton.1 hm))
  replace o2 := o2.keep k5 (fun x hx hm => sb_b2_o2 x hx (List.mem_singleton.1 hm))
  replace hB := hB.new k5 (fun x hx => .inl ((List.mem_singleton.1 hx) ▸ ge_b2))
  clear z3
  replace hb3 : Bk w7 b2 _ [.slice none 0 0, iw] := hb3
  refine ow_nil ?_
  refine tw_keep [(0, _), (2, _), (5, _), (6, _)] ⟨rfl, rfl, rfl, rfl, trivial⟩ ?_
  refine tw_seq ?_
  refine tw_block ?_
  obtain ⟨Z, hZ⟩ : ∃ Z, Z = w7.heap.size := ⟨_, rfl⟩
  have zc1 : b1 < Z := by have := hb1.lt; omega
  have zc2 : b2 < Z := by have := hb3.lt; omega
  have zp3 : p2 < Z := by omega
  have zo_ovi : ∀ x, x ∈ vblk iw → x < Z := fun x hx => by have := (o2.blk x hx).2; omega
  have zw := hB.size
  rw [← hZ] at zw
  have hqo := rVec_out c 0; have hio := rVec_out (rVec c 0).2.1 (rVec c 0).2.2
  refine tw_loop (Γ := Value × List Tri × List UInt8 × Int) (fun ⟨q, xs, rest, e⟩ => [(0, v), (2, .pointer (some ⟨b1, 0, none⟩)), (5, .pointer (some ⟨p2, 0, none⟩)), (6, .pointer (some ⟨b2, 0, none⟩))]) (fun ⟨q, xs, rest, e⟩ W => TriJ (rVec c 0).1 xs rest e ∧ (∀ x ∈ xs, x.1.length ≤ 65536 ∧ x.2.1.length ≤ 65536 ∧ x.2.2.length ≤ 65536) ∧ OwT 5 W Z 98 q xs ∧ OwnB W 0 iw (rVec (rVec c 0).2.1 (rVec c 0).2.2).1 ∧ Bk W b1 29 [.slice none 0 0, .slice none 0 0] ∧ Bk W b2 29 [q, iw] ∧ Rdr W p2 rest e ∧ Z ≤ W.heap.size ∧ Keep [] w W) (fun ⟨q, xs, rest, e⟩ => triM rest e) ⟨.slice none 0 0, [], _, 0⟩ ⟨rfl, rfl, rfl, rfl, trivial⟩ (⟨triJ_start _, small_nil, owT_nil _ _ _ _, o2.lo (Nat.zero_le _), hb1, hb3, rl, by omega, hB⟩) ?_
  rintro ⟨q, xs, rest, e⟩ w8 ⟨hJ, hsm, ot, ovi, hbx1, hbx2, rl, hsz, hB⟩
  refine tw_keep [(0, v), (2, .pointer (some ⟨b1, 0, none⟩)), (5, .pointer (some ⟨p2, 0, none⟩)), (6, .pointer (some ⟨b2, 0, none⟩))] ⟨rfl, rfl, rfl, rfl, trivial⟩ ?_
  have u_ot := ot.blk
  have u_ovi := ovi.blk
  have hJ2 : xs.length + rest.length ≤ (rVec c 0).1.length + 1 := Nat.le_trans hJ.2 (by split <;> omega)
  refine tw_seq ?_
  refine tw_seq ?_
  refine tw_region ?_
  refine ow_g (g_mv rfl) rfl ?_
  refine ow_d (d_call (vs := [_]) rfl (left_any _ _ _ _ rl)) rfl ?_
  rintro _ _ ⟨rfl, rfl⟩
  refine ow_g (g_gt rfl rfl) rfl ?_
  refine ow_g (g_mv rfl) rfl ?_
  refine ow_grp 18 true rfl (fun c1 hgc1 => ?_)
  refine ow_gg [(5, _)] (grd1 rfl rfl rfl hgc1) ⟨und0 rfl, trivial⟩ (fun hw1 => g_mv rfl) rfl ?_
  refine ow_gds [(19, _)] (grd1 rfl rfl rfl hgc1) ⟨und1 rfl, trivial⟩ (fun hw2 => d_call (vs := [_]) rfl (err_any _ _ _ _ rl)) rfl ?_
  refine ow_gg [(20, _)] (grd1 rfl rfl rfl hgc1) ⟨und1 rfl, trivial⟩ (fun hw3 => g_eq rfl rfl) rfl ?_
  refine ow_g (g_pand rfl rfl hgc1) rfl ?_
  refine ow_nil ?_
  refine tw_cond rfl (fun hc1 => ?_) (fun hc1 => ?_)
  · -- yes
    have hd1 := hc1
    try (simp only [Bool.and_eq_true, Bool.or_eq_true, decide_eq_true_eq, Bool.and_eq_false_iff, Bool.or_eq_false_iff, decide_eq_false_iff_not, Bool.not_eq_true', Bool.not_eq_false', Bool.not_eq_true, Bool.not_eq_false, ne_eq, Decidable.not_not, decide_true, decide_false, Bool.true_and, Bool.false_and, Bool.or_false, Bool.false_or, not_true_eq_false, false_or, or_false, true_and, and_true, not_false_eq_true, reduceCtorEq] at hd1)
    refine tw_skip ?_
    refine tw_block ?_
    refine tw_planA 10 [0, 1, 2, 4, 6, 3, 5, 7, 8, 9] [3, 5, 7, 9] [p2] [] mixed [(6, _), (5, _), (0, _), (2, _)] ⟨rfl, rfl, rfl, rfl, trivial⟩ (by decide +kernel) (by decide) (by decide) ?_ (fun x hx => by have h9 := List.mem_singleton.1 hx; have := rl.lt; omega) rfl (fun w9 k6 => ?_)
    · intro q hq; cases hq
    replace ot := ot.keep0 k6
    replace ovi := ovi.keep0 k6
    replace hbx1 := hbx1.keep0 k6
    replace hbx2 := hbx2.keep0 k6
    replace rl := rl.keep0 k6
    replace hB := hB.trans k6
    have hqb := ot.blk; have lp2 := rl.lt; have hsw := hsz
    refine pa_g [(6, _)] rfl rfl ⟨rfl, trivial⟩ rfl (fun W' kk => g_faE 0 Try.underlying29 rfl ty27 (by decide) rfl rfl) ?_
    refine pa_g [(23, _)] rfl rfl ⟨rfl, trivial⟩ rfl (fun W' kk => g_ldb sc27 rfl (Bk.keep hbx2 kk (by simp only [List.mem_cons, List.not_mem_nil, or_false]; first | assumption | (apply Ne.symm; assumption) | omega)) rfl) ?_
    refine pa_g [(5, _)] rfl rfl ⟨rfl, trivial⟩ rfl (fun W' kk => g_mv rfl) ?_
    refine pa_g [(5, _)] rfl rfl ⟨rfl, trivial⟩ rfl (fun W' kk => g_mv rfl) ?_
    refine pa_g [(5, _)] rfl rfl ⟨rfl, trivial⟩ rfl (fun W' kk => g_mv rfl) ?_
    refine pa_d [(25, _)] rfl rfl ⟨rfl, trivial⟩ rfl (fun w11 k7 => ?_)
    replace ot := ot.keep0 k7
    replace ovi := ovi.keep0 k7
    replace hbx1 := hbx1.keep0 k7
    replace hbx2 := hbx2.keep0 k7
    replace rl := rl.keep0 k7
    replace hB := hB.trans k7
    refine (d_call (vs := [_]) rfl (vector_any _ _ _ _ rl (by have h1 := rVec_len rest e; omega))).mono ?_
    rintro v1 w10 ⟨_, rfl, o1, R1, km3⟩
    refine ⟨km3, (fun x hx => ⟨.inr (o1.blk x (o1.rd.cblk ▸ hx)).1, (o1.blk x (o1.rd.cblk ▸ hx)).2⟩), ?_⟩
    have zk6 := k6.size
    have zk7 := k7.size
    have z_km3 := km3.size
    replace ot := ot.keepL km3 (fun x hm => by have h9 := List.mem_singleton.1 hm; omega)
    replace ovi := ovi.keep km3 (fun x hx hm => by have h9 := List.mem_singleton.1 hm; have h8 := np_ovi x hx; omega)
    replace hbx1 := hbx1.keep km3 (fun hm => by have h9 := List.mem_singleton.1 hm; omega)
    replace hbx2 := hbx2.keep km3 (fun hm => by have h9 := List.mem_singleton.1 hm; omega)
    replace hB := hB.new km3 (fun x hm => .inl (by have h9 := List.mem_singleton.1 hm; omega))
    replace rl := R1
    refine pa_d [(27, _)] rfl rfl ⟨rfl, trivial⟩ rfl (fun w13 k8 => ?_)
    replace ot := ot.keep0 k8
    replace ovi := ovi.keep0 k8
    replace hbx1 := hbx1.keep0 k8
    replace hbx2 := hbx2.keep0 k8
    replace rl := rl.keep0 k8
    replace o1 := o1.keep0 k8
    replace hB := hB.trans k8
    refine (d_call (vs := [_]) rfl (vector_any _ _ _ _ rl (by have h1 := rVec_len rest e; omega))).mono ?_
    rintro v2 w12 ⟨_, rfl, o2, R2, km4⟩
    refine ⟨km4, (fun x hx => ⟨.inr (o2.blk x (o2.rd.cblk ▸ hx)).1, (o2.blk x (o2.rd.cblk ▸ hx)).2⟩), ?_⟩
    have zk8 := k8.size
    have z_km4 := km4.size
    replace ot := ot.keepL km4 (fun x hm => by have h9 := List.mem_singleton.1 hm; omega)
    replace ovi := ovi.keep km4 (fun x hx hm => by have h9 := List.mem_singleton.1 hm; have h8 := np_ovi x hx; omega)
    replace hbx1 := hbx1.keep km4 (fun hm => by have h9 := List.mem_singleton.1 hm; omega)
    replace hbx2 := hbx2.keep km4 (fun hm => by have h9 := List.mem_singleton.1 hm; omega)
    replace o1 := o1.keep km4 (fun x hx hm => by have h9 := List.mem_singleton.1 hm; have h8 := (o1.blk x hx).1; omega)
    replace hB := hB.new km4 (fun x hm => .inl (by have h9 := List.mem_singleton.1 hm; omega))
    replace rl := R2
    refine pa_d [(29, _)] rfl rfl ⟨rfl, trivial⟩ rfl (fun w15 k9 => ?_)
    replace ot := ot.keep0 k9
    replace ovi := ovi.keep0 k9
    replace hbx1 := hbx1.keep0 k9
    replace hbx2 := hbx2.keep0 k9
    replace rl := rl.keep0 k9
    replace o1 := o1.keep0 k9
    replace o2 := o2.keep0 k9
    replace hB := hB.trans k9
    refine (d_call (vs := [_]) rfl (vector_any _ _ _ _ rl (by have h1 := rVec_len rest e; have h2 := rVec_len (rVec rest e).2.1 (rVec rest e).2.2; omega))).mono ?_
    rintro v3 w14 ⟨_, rfl, o3, R3, km5⟩
    refine ⟨km5, (fun x hx => ⟨.inr (o3.blk x (o3.rd.cblk ▸ hx)).1, (o3.blk x (o3.rd.cblk ▸ hx)).2⟩), ?_⟩
    have zk9 := k9.size
    have z_km5 := km5.size
    replace ot := ot.keepL km5 (fun x hm => by have h9 := List.mem_singleton.1 hm; omega)
    replace ovi := ovi.keep km5 (fun x hx hm => by have h9 := List.mem_singleton.1 hm; have h8 := np_ovi x hx; omega)
    replace hbx1 := hbx1.keep km5 (fun hm => by have h9 := List.mem_singleton.1 hm; omega)
    replace hbx2 := hbx2.keep km5 (fun hm => by have h9 := List.mem_singleton.1 hm; omega)
    replace o1 := o1.keep km5 (fun x hx hm => by have h9 := List.mem_singleton.1 hm; have h8 := (o1.blk x hx).1; omega)
    replace o2 := o2.keep km5 (fun x hx hm => by have h9 := List.mem_singleton.1 hm; have h8 := (o2.blk x hx).1; omega)
    replace hB := hB.new km5 (fun x hm => .inl (by have h9 := List.mem_singleton.1 hm; omega))
    replace rl := R3
    refine pa_g [(26, _), (28, _), (30, _)] rfl rfl ⟨rfl, rfl, rfl, trivial⟩ rfl (fun W' kk => g_bld (idx := [0, 1, 2]) (xs := [.tmp 26, .tmp 28, .tmp 30]) (vs := [_, _, _]) (css := [[_], [_], [_]]) (out := [v1, v2, v3]) pl98 ty98 rfl rfl ⟨Rd.cells (Own.rd o1), Rd.cells (Own.rd o2), Rd.cells (Own.rd o3), trivial⟩ rfl rfl) ?_
    refine pa_d [(31, _)] rfl rfl ⟨rfl, trivial⟩ rfl (fun w17 k11 => ?_)
    replace ot := ot.keep0 k11
    replace ovi := ovi.keep0 k11
    replace hbx1 := hbx1.keep0 k11
    replace hbx2 := hbx2.keep0 k11
    replace rl := rl.keep0 k11
    replace o1 := o1.keep0 k11
    replace o2 := o2.keep0 k11
    replace o3 := o3.keep0 k11
    replace hB := hB.trans k11
    refine (d_bs (m := 1) (xs := [.tmp 31]) (vs := [_]) Try.underlying27 ty98 (by decide) rfl rfl rfl (by first | (simp; done) | (intro v hv; rw [List.mem_singleton] at hv; subst hv; rfl)) (by decide)).mono ?_
    rintro v4 w16 ⟨o4, nn1, lb1, k10, z4⟩
    refine ⟨k10.weak, (fun x hx => ⟨.inr (o4.blk x (o4.rd.cblk ▸ hx)).1, (o4.blk x (o4.rd.cblk ▸ hx)).2⟩), ?_⟩
    have gl_o4 := hB.size
    have sb_b1_o4 := fun x hx => (show x ≠ b1 from by have h1 := (o4.blk x hx).1; have h2 := hbx1.lt; omega)
    have sb_b2_o4 := fun x hx => (show x ≠ b2 from by have h1 := (o4.blk x hx).1; have h2 := hbx2.lt; omega)
    replace ot := ot.keep0 k10
    replace ovi := ovi.keep0 k10
    replace hbx1 := hbx1.keep0 k10
    replace hbx2 := hbx2.keep0 k10
    replace rl := rl.keep0 k10
    replace o1 := o1.keep0 k10
    replace o2 := o2.keep0 k10
    replace o3 := o3.keep0 k10
    replace hB := hB.trans k10
    have u_o4 := o4.blk
    refine pa_nil (fun w18 k12 => ?_)
    replace ot := ot.keep0 k12
    replace ovi := ovi.keep0 k12
    replace hbx1 := hbx1.keep0 k12
    replace hbx2 := hbx2.keep0 k12
    replace rl := rl.keep0 k12
    replace o1 := o1.keep0 k12
    replace o2 := o2.keep0 k12
    replace o3 := o3.keep0 k12
    replace o4 := o4.keep0 k12
    replace hB := hB.trans k12
    refine fina_nil ?_
    have zk10 := k10.size
    have zk11 := k11.size
    have zk12 := k12.size
    have hob : Rd _ 3 _ 1 [v1, v2, v3] := o4.rd
    refine ow_d (d_appT (t8 := 5) (z := (tri1 rest e).1) Try.underlying27 ty98 rfl rfl ot rfl hob (o1.lo (by omega)) (o2.lo (by omega)) (o3.lo (by omega)) (fun y hy hm => by have h1 := (o1.blk y hy).1; have h2 := (hqb y hm).2; omega) (fun y hy hm => by have h1 := (o2.blk y hy).1; have h2 := (hqb y hm).2; omega) (fun y hy hm => by have h1 := (o3.blk y hy).1; have h2 := (hqb y hm).2; omega) (by omega) (by omega)) rfl ?_
    rintro q1 w19 ⟨ot1, k13, lb2⟩
    have zk_k13 := k13.size
    replace hB := hB.new k13 (fun x hx => .inl (by have := (ot.blk x hx).1; omega))
    replace ovi := ovi.keep k13 (fun x hx hm => by have h1 := (ot.blk _ hm).1; have h2 := zo_ovi x hx; omega)
    replace hbx1 := hbx1.keep k13 (fun hm => by have := (ot.blk _ hm).1; omega)
    replace hbx2 := hbx2.keep k13 (fun hm => by have := (ot.blk _ hm).1; omega)
    replace rl := rl.keep k13 (fun x hx hm => by have := (ot.blk _ hm).1; omega)
    refine ow_g (g_faE 0 Try.underlying29 rfl ty27 (by decide) rfl rfl) rfl ?_
    refine ow_d0 (d_st ty27 rfl rfl ot1.one hbx2 rfl) ?_
    rintro _ w20 ⟨hb4, k14, z5⟩
    have zk_k14 := k14.size
    replace ovi := ovi.keep k14 (fun x hx hm => sb_b2_o2 x hx (List.mem_singleton.1 hm))
    replace hbx1 := hbx1.keep k14 (fun hm => absurd (List.mem_singleton.1 hm) ne_b1_b2)
    replace ot1 := ot1.keep k14 (fun x hx hm => (fun x hx => (show x ≠ b2 from by omega)) x hx (List.mem_singleton.1 hm))
    replace rl := rl.keep k14 (fun x hx hm => (fun x (hx : x ≤ p2) => (show x ≠ b2 from by omega)) x hx (List.mem_singleton.1 hm))
    replace hB := hB.new k14 (fun x hx => .inl ((List.mem_singleton.1 hx) ▸ ge_b2))
    replace hb4 : Bk w20 b2 _ [q1, iw] := hb4
    clear z5
    refine ow_nil ?_
    refine tw_keep [(6, _), (5, _), (0, _), (2, _)] ⟨rfl, rfl, rfl, rfl, trivial⟩ ?_
    refine tw_b ?_
    have hlt := triM_less (rest := rest) (e := e) (by omega) (by omega)
    refine tw_inv (Γ := Value × List Tri × List UInt8 × Int) ⟨q1, _, _, _⟩ ⟨rfl, rfl, rfl, rfl, trivial⟩ (by (try dsimp only); omega) (⟨triJ_step hJ (by omega) (by omega), small_step hsm rest e, ot1, ovi, hbx1, hb4, rl, by omega, hB⟩)
  · -- no
    have hd2 := hc1
    try (simp only [Bool.and_eq_true, Bool.or_eq_true, decide_eq_true_eq, Bool.and_eq_false_iff, Bool.or_eq_false_iff, decide_eq_false_iff_not, Bool.not_eq_true', Bool.not_eq_false', Bool.not_eq_true, Bool.not_eq_false, ne_eq, Decidable.not_not, decide_true, decide_false, Bool.true_and, Bool.false_and, Bool.or_false, Bool.false_or, not_true_eq_false, false_or, or_false, true_and, and_true, not_false_eq_true, reduceCtorEq] at hd2)
    refine tw_exit rfl ?_
    refine tw_seq ?_
    refine tw_region ?_
    refine ow_g (g_ldab (cs' := [_, _]) ag29 ty29 rfl hbx2 rfl rfl) rfl ?_
    refine ow_g (g_mv rfl) rfl ?_
    have hend := triI_end hJ.1 (by omega)
    have hgo := getOk_1 hend
    have hwp := welP_1 hend
    refine ow_d (d_call (vs := [_, _, _]) rfl (again_k q iw xs _ _ ot.rdT ovi.rd (fun x hx => by have := hsm x hx; omega) v c (by first | assumption | exact Own.rd (by assumption) | exact Rd.keep0 (by assumption) hB | exact Own.rd (Own.keep0 (by assumption) hB)))) rfl ?_
    rintro _ w21 ⟨q3, u3, rfl, oq3, ou3, hcase, k15⟩
    replace ot := ot.keep0 k15
    replace ovi := ovi.keep0 k15
    replace hbx1 := hbx1.keep0 k15
    replace hbx2 := hbx2.keep0 k15
    replace hB := hB.trans k15
    refine ow_g (g_ext (vs := [_, _]) rfl rfl) rfl ?_
    refine ow_g (g_ext (vs := [_, _]) rfl rfl) rfl ?_
    refine ow_d0 (d_sta ty29 rfl rfl rfl (by simp only [List.forall_mem_cons]; exact ⟨oq3, ou3, fun v hv => by cases hv⟩) hbx1 rfl) ?_
    rintro _ w22 ⟨hb5, k16, z6⟩
    replace ot := ot.keep k16 (fun x hx hm => (fun x hx => (show x ≠ b1 from by omega)) x hx (List.mem_singleton.1 hm))
    replace ovi := ovi.keep k16 (fun x hx hm => (fun x hx => (show x ≠ b1 from by have := np_ovi x hx; omega)) x hx (List.mem_singleton.1 hm))
    replace hbx2 := hbx2.keep k16 (fun hm => absurd (List.mem_singleton.1 hm) (Ne.symm ne_b1_b2))
    replace hB := hB.new k16 (fun x hx => .inl ((List.mem_singleton.1 hx) ▸ ge_b1))
    clear z6
    replace hb5 : Bk w22 b1 _ [q3, u3] := hb5
    refine ow_g (g_as rfl) rfl ?_
    refine ow_nil ?_
    refine tw_keep [(2, _), (3, _)] ⟨rfl, rfl, trivial⟩ ?_
    refine tw_retct hfin Try.results11 rfl (run_loadAgg ag29 ty29 (by assumption) rfl) rfl ?_
    rw [← hgo]
    rw [← hgo] at hcase
    rcases hcase with ⟨hg, rfl, rfl⟩ | ⟨hg, rfl, rfl⟩
    · exact ⟨_, _, by unfold getE; rfl, by unfold getS; rw [hg, hwp]; exact ot.rdT, by unfold getI; rw [hg, hwp]; exact ovi.rd, hB⟩
    · exact ⟨_, _, by unfold getE; rfl, by unfold getS; rw [hg]; exact rdT_nil _, by unfold getI; rw [hg]; exact Rd.nil _ _, hB⟩
end Go.Proofs.Ytimeclfplaonkaa.W
namespace Go.Proofs.Ytimeclfplaonkaa.W
open Go Go.Eng Go.Byt
set_option linter.unusedVariables false
set_option linter.unusedSimpArgs false
set_option maxRecDepth 100000 in
set_option maxHeartbeats 1000000 in
theorem rgetw_any (v : Value) (c : List UInt8) (w : World) (hv : RdB w v c) (hc : c.length ≤ 140737488351232) : Rets Try.prog 12 [v] w (fun r w' => ∃ q u, r = .tuple #[.agg [q, u].toArray, .int .i64 (getE c)] ∧ RdT w' q (getS c) ∧ RdB w' u (getI c) ∧ Keep [] w w') := by
 have hB : Keep [] w w := Keep.refl _ _
 refine rets_of_tw Try.func12 rfl (by decide) Try.ntmps12 rfl (fun fin _ hfin => ?_)
 refine tw_seq (tw_region (ow_d (d_alloc ty25) rfl ?_))
 rintro _ w1 ⟨b1, rfl, eb1, hb1, k1, z1⟩
 have ge_b1 : w.heap.size ≤ b1 := by have := hB.size; omega
 replace hB := hB.trans k1
 clear eb1 z1
 refine ow_g (g_as rfl) rfl (ow_nil (tw_seq (tw_region (ow_g (g_mv rfl) rfl ?_))))
 have zb1 := hb1.lt; have hs8 := hB.size
 refine ow_d (d_call (vs := [_]) rfl (rnewL_any _ c _ (by first | assumption | exact Own.rd ‹_› | exact Rd.keep0 ‹_› hB | exact Own.rd (Own.keep0 ‹_› hB)) (by omega))) rfl ?_
 rintro _ w2 ⟨p1, rfl, rr, k2⟩
 replace hb1 := hb1.keep0 k2
 replace hB := hB.trans k2
 have gp1 := rr.1
 replace rr := rr.rdr
 refine ow_g (g_as rfl) rfl (ow_nil (tw_seq (tw_region (ow_g (g_mv rfl) rfl (ow_d (d_call (vs := [_]) rfl (rvector_any _ c 0 _ rr)) rfl ?_)))))
 rintro jw w3 ⟨_, rfl, ov1, rr, km1⟩
 have z_km1 := km1.size
 replace hb1 := hb1.keep km1 (fun hm => by have h9 := List.mem_singleton.1 hm; omega)
 replace hB := hB.new km1 (fun x hm => .inl (by have h9 := List.mem_singleton.1 hm; omega))
 have lt11 := rr.lt; have hlq := rVec_out c 0
 refine ow_d (d_call (vs := [_]) rfl (rnewL_any _ (rVec c 0).1 _ ov1.rd (by omega))) rfl ?_
 rintro _ w4 ⟨p2, rfl, rl, k3⟩
 replace hb1 := hb1.keep0 k3
 replace rr := rr.keep0 k3
 replace hB := hB.trans k3
 have gp2 := rl.1
 have p12 : p1 < p2 := by omega
 refine ow_g (g_as rfl) rfl (ow_nil (tw_seq (tw_region (ow_g (g_mv rfl) rfl ?_))))
 have lt13 := rl.rdr.lt
 refine ow_d (d_call (vs := [_]) rfl (rvector_any _ _ _ _ rr)) rfl ?_
 rintro iw w5 ⟨_, rfl, oi, rr, km2⟩
 have z_km2 := km2.size
 replace hb1 := hb1.keep km2 (fun hm => by have h9 := List.mem_singleton.1 hm; omega)
 replace rl := rl.keep km2 (fun x hx hm => by have h9 := List.mem_singleton.1 hm; omega)
 replace hB := hB.new km2 (fun x hm => .inl (by have h9 := List.mem_singleton.1 hm; omega))
 have np_ovi : ∀ x, x ∈ vblk iw → p2 < x := fun x hx => by have := (oi.blk x hx).1; omega
 have gl_oi := hB.size
 replace rl := rl.rdr
 refine ow_g (g_bld (idx := [1]) (xs := [.tmp 14]) (vs := [_]) (css := [[_]]) (out := [_, _]) pl25 ty25 rfl rfl ⟨Rd.cells (by first | assumption | exact Own.rd ‹_› | exact Rd.keep0 ‹_› hB | exact Own.rd (Own.keep0 ‹_› hB)), trivial⟩ rfl rfl) rfl ?_
 have lq_zp2 := rl.lt
 refine ow_d (d_alloc ty25) rfl ?_
 rintro _ w6 ⟨b2, rfl, eb2, hb2, k4, z2⟩
 have zp2 : p2 < b2 := by omega
 have ge_b2 : w.heap.size ≤ b2 := by have := hB.size; omega
 have ne_b1_b2 : b1 ≠ b2 := by have := hb1.lt; omega
 have sb_b2_oi := fun x hx => (show x ≠ b2 from by have := (oi.blk x hx).2; omega)
 replace hb1 := hb1.keep0 k4
 replace rr := rr.keep0 k4
 replace rl := rl.keep0 k4
 replace oi := oi.keep0 k4
 replace hB := hB.trans k4
 clear eb2 z2
 refine ow_d0 (d_sta ty25 rfl rfl rfl (by simp only [List.forall_mem_cons]; refine ⟨(by first | rfl | exact Rd.one (by first | assumption | exact Own.rd ‹_› | exact Rd.keep0 ‹_› hB | exact Own.rd (Own.keep0 ‹_› hB))), (by first | rfl | exact Rd.one (by first | assumption | exact Own.rd ‹_› | exact Rd.keep0 ‹_› hB | exact Own.rd (Own.keep0 ‹_› hB))), fun v hv => by cases hv⟩) hb2 rfl) ?_
 rintro _ w7 ⟨hb3, k5, z3⟩
 replace hb1 := hb1.keep k5 (fun hm => absurd (List.mem_singleton.1 hm) ne_b1_b2)
 replace rr := rr.keep k5 (fun x hx hm => (fun x (hx : x ≤ p1) => (show x ≠ b2 from by omega)) x hx (List.mem_singleton.1 hm))
 replace rl := rl.keep k5 (fun x hx hm => (fun x (hx : x ≤ p2) => (show x ≠ b2 from by omega)) x hx (List.mem_singleton.1 hm))
 replace oi := oi.keep k5 (fun x hx hm => sb_b2_oi x hx (List.mem_singleton.1 hm))
 replace hB := hB.new k5 (fun x hx => .inl ((List.mem_singleton.1 hx) ▸ ge_b2))
 clear z3
 replace hb3 : Bk w7 b2 _ [.slice none 0 0, iw] := hb3
 refine ow_nil (tw_keep [(2, _), (4, _), (5, _), (6, _)] ⟨rfl, rfl, rfl, rfl, trivial⟩ ?_)
 refine tw_seq (tw_block ?_)
 obtain ⟨Z, hZ⟩ : ∃ Z, Z = w7.heap.size := ⟨_, rfl⟩
 have zc1 : b1 < Z := by have := hb1.lt; omega
 have zc2 : b2 < Z := by have := hb3.lt; omega
 have zp3 : p2 < Z := by omega
 have zo_ovi : ∀ x, x ∈ vblk iw → x < Z := fun x hx => by have := (oi.blk x hx).2; omega
 have zw := hB.size
 rw [← hZ] at zw
 have hqo := rVec_out c 0; have hio := rVec_out (rVec c 0).2.1 (rVec c 0).2.2
 refine tw_loop (Γ := Value × List Tri × List UInt8 × Int) (fun ⟨q, xs, rest, e⟩ => [(2, .pointer (some ⟨b1, 0, none⟩)), (4, .pointer (some ⟨p1, 0, none⟩)), (5, .pointer (some ⟨p2, 0, none⟩)), (6, .pointer (some ⟨b2, 0, none⟩))]) (fun ⟨q, xs, rest, e⟩ W => TriJ (rVec c 0).1 xs rest e ∧ (∀ x ∈ xs, x.1.length ≤ 65536 ∧ x.2.1.length ≤ 65536 ∧ x.2.2.length ≤ 65536) ∧ OwT 5 W Z 97 q xs ∧ OwnB W 0 iw (rVec (rVec c 0).2.1 (rVec c 0).2.2).1 ∧ Bk W b1 25 [.slice none 0 0, .slice none 0 0] ∧ Bk W b2 25 [q, iw] ∧ RdR W p1 (rVec (rVec c 0).2.1 (rVec c 0).2.2).2.1 (rVec (rVec c 0).2.1 (rVec c 0).2.2).2.2 ∧ RdR W p2 rest e ∧ Z ≤ W.heap.size ∧ Keep [] w W) (fun ⟨q, xs, rest, e⟩ => triM rest e) ⟨.slice none 0 0, [], _, 0⟩ ⟨rfl, rfl, rfl, rfl, trivial⟩ (⟨triJ_start _, small_nil, owT_nil _ _ _ _, oi.lo (Nat.zero_le _), hb1, hb3, rr, rl, by omega, hB⟩) ?_
 rintro ⟨q, xs, rest, e⟩ w8 ⟨hJ, hsm, ot, ovi, hbx1, hbx2, rr, rl, hsz, hB⟩
 refine tw_keep [(2, .pointer (some ⟨b1, 0, none⟩)), (4, .pointer (some ⟨p1, 0, none⟩)), (5, .pointer (some ⟨p2, 0, none⟩)), (6, .pointer (some ⟨b2, 0, none⟩))] ⟨rfl, rfl, rfl, rfl, trivial⟩ ?_
 have u_ot := ot.blk
 have u_ovi := ovi.blk
 have hJ2 : xs.length + rest.length ≤ (rVec c 0).1.length + 1 := Nat.le_trans hJ.2 (by split <;> omega)
 have rl2 := rl
 obtain ⟨bs, at_, bw, hbp, _⟩ := rl2
 refine tw_seq (tw_seq (tw_region (ow_g (g_mv rfl) rfl (ow_d (d_call (vs := [_]) rfl (rleft_any _ _ _ _ rl)) rfl ?_))))
 rintro _ w9 ⟨rfl, k6⟩
 replace ot := ot.keep0 k6
 replace ovi := ovi.keep0 k6
 replace hbx1 := hbx1.keep0 k6
 replace hbx2 := hbx2.keep0 k6
 replace rr := rr.keep0 k6
 replace rl := rl.keep0 k6
 replace hbp := hbp.keep0 k6
 replace hB := hB.trans k6
 refine ow_g (g_gt rfl rfl) rfl ?_
 refine ow_g (g_mv rfl) rfl (ow_grp 19 true rfl (fun c1 hgc1 => ?_))
 refine ow_gg [(5, _)] (grd1 rfl rfl rfl hgc1) ⟨und0 rfl, trivial⟩ (fun hw1 => g_mv rfl) rfl ?_
 refine ow_gg [(20, _)] (grd1 rfl rfl rfl hgc1) ⟨und1 rfl, trivial⟩ (fun hw2 => g_nilc rfl) rfl ?_
 refine ow_gg [(21, _)] (grd1 rfl rfl rfl hgc1) ⟨und1 rfl, trivial⟩ (fun hw3 => g_faE 2 Try.underlying112 rfl ty3 (by decide) rfl rfl) rfl ?_
 refine ow_gg [(22, _)] (grd1 rfl rfl rfl hgc1) ⟨und1 rfl, trivial⟩ (fun hw4 => g_ldb sc3 rfl hbp rfl) rfl ?_
 refine ow_gg [(23, _)] (grd1 rfl rfl rfl hgc1) ⟨und1 rfl, trivial⟩ (fun hw5 => g_eq rfl rfl) rfl ?_
 refine ow_g (g_pand rfl rfl hgc1) rfl ?_
 refine ow_nil (tw_cond rfl (fun hc1 => ?_) (fun hc1 => ?_))
 ·
  have hd1 := hc1
  try (simp only [Bool.and_eq_true, Bool.or_eq_true, decide_eq_true_eq, Bool.and_eq_false_iff, Bool.or_eq_false_iff, decide_eq_false_iff_not, Bool.not_eq_true', Bool.not_eq_false', Bool.not_eq_true, Bool.not_eq_false, ne_eq, Decidable.not_not, decide_true, decide_false, Bool.true_and, Bool.false_and, Bool.or_false, Bool.false_or, not_true_eq_false, false_or, or_false, true_and, and_true, not_false_eq_true, reduceCtorEq] at hd1)
  refine tw_skip (tw_block (tw_seq (tw_region (ow_g (g_mv rfl) rfl ?_))))
  have lz := rl.lt; have hqb := ot.blk; obtain ⟨W0, hW0⟩ : ∃ W0, W0 = w9 := ⟨_, rfl⟩
  have hK : Keep [p2] w9 w9 := Keep.refl _ _
  have hsw := hsz
  have lv_o1 := rl.lt
  refine ow_d (d_call (vs := [_]) rfl (rvector_any _ _ _ _ rl)) rfl ?_
  rintro v1 w10 ⟨_, rfl, o1, rl, km3⟩
  have gl_o1 := hB.size
  have sb_b1_o1 := fun x hx => (show x ≠ b1 from by have h1 := (o1.blk x hx).1; have h2 := hbx1.lt; omega)
  have sb_b2_o1 := fun x hx => (show x ≠ b2 from by have h1 := (o1.blk x hx).1; have h2 := hbx2.lt; omega)
  have z_km3 := km3.size
  replace hbx1 := hbx1.keep km3 (fun hm => by have h9 := List.mem_singleton.1 hm; omega)
  replace hbx2 := hbx2.keep km3 (fun hm => by have h9 := List.mem_singleton.1 hm; omega)
  replace rr := rr.keep km3 (fun x hx hm => by have h9 := List.mem_singleton.1 hm; omega)
  replace hB := hB.new km3 (fun x hm => .inl (by have h9 := List.mem_singleton.1 hm; omega))
  replace hK := hK.trans km3
  refine ow_g (g_bld (idx := [0]) (xs := [.tmp 27]) (vs := [_]) (css := [[_]]) (out := [_, _, _]) pl97 ty97 rfl rfl ⟨Rd.cells (by first | assumption | exact Own.rd ‹_› | exact Rd.keep0 ‹_› hB | exact Own.rd (Own.keep0 ‹_› hB)), trivial⟩ rfl rfl) rfl ?_
  have lq_zq7 := rl.lt; have lz7 := hK.size
  refine ow_d (d_alloc ty97) rfl ?_
  rintro _ w11 ⟨b3, rfl, eb3, hb4, k7, z4⟩
  have zq7 : p2 < b3 := by omega
  have zg_b3 : w9.heap.size ≤ b3 := by omega
  have ge_b3 : w.heap.size ≤ b3 := by have := hB.size; omega
  have ne_b1_b3 : b1 ≠ b3 := by have := hbx1.lt; omega
  have ne_b2_b3 : b2 ≠ b3 := by have := hbx2.lt; omega
  have sb_b3_o1 := fun x hx => (show x ≠ b3 from by have := (o1.blk x hx).2; omega)
  replace hbx1 := hbx1.keep0 k7
  replace hbx2 := hbx2.keep0 k7
  replace rr := rr.keep0 k7
  replace rl := rl.keep0 k7
  replace o1 := o1.keep0 k7
  replace hB := hB.trans k7
  replace hK := hK.trans k7.weak
  clear eb3 z4
  refine ow_d0 (d_sta ty97 rfl rfl rfl (by simp only [List.forall_mem_cons]; refine ⟨(by first | rfl | exact Rd.one (by first | assumption | exact Own.rd ‹_› | exact Rd.keep0 ‹_› hB | exact Own.rd (Own.keep0 ‹_› hB))), (by first | rfl | exact Rd.one (by first | assumption | exact Own.rd ‹_› | exact Rd.keep0 ‹_› hB | exact Own.rd (Own.keep0 ‹_› hB))), (by first | rfl | exact Rd.one (by first | assumption | exact Own.rd ‹_› | exact Rd.keep0 ‹_› hB | exact Own.rd (Own.keep0 ‹_› hB))), fun v hv => by cases hv⟩) hb4 rfl) ?_
  rintro _ w12 ⟨hb5, k8, z5⟩
  replace hbx1 := hbx1.keep k8 (fun hm => absurd (List.mem_singleton.1 hm) ne_b1_b3)
  replace hbx2 := hbx2.keep k8 (fun hm => absurd (List.mem_singleton.1 hm) ne_b2_b3)
  replace rr := rr.keep k8 (fun x hx hm => (fun x (hx : x ≤ p1) => (show x ≠ b3 from by omega)) x hx (List.mem_singleton.1 hm))
  replace rl := rl.keep k8 (fun x hx hm => (fun x (hx : x ≤ p2) => (show x ≠ b3 from by omega)) x hx (List.mem_singleton.1 hm))
  replace o1 := o1.keep k8 (fun x hx hm => sb_b3_o1 x hx (List.mem_singleton.1 hm))
  replace hB := hB.new k8 (fun x hx => .inl ((List.mem_singleton.1 hx) ▸ ge_b3))
  replace hK := hK.new k8 (fun x hx => .inl ((List.mem_singleton.1 hx) ▸ zg_b3))
  clear z5
  replace hb5 : Bk w12 b3 _ [v1, .slice none 0 0, .slice none 0 0] := hb5
  refine ow_nil (tw_keep [(2, _), (4, _), (5, _), (6, _), (7, _)] ⟨rfl, rfl, rfl, rfl, rfl, trivial⟩ ?_)
  refine tw_seq (tw_region (ow_g (g_mv rfl) rfl ?_))
  have lv_o2 := rl.lt
  refine ow_d (d_call (vs := [_]) rfl (rvector_any _ _ _ _ rl)) rfl ?_
  rintro v2 w13 ⟨_, rfl, o2, rl, km4⟩
  have gl_o2 := hB.size
  have sb_b1_o2 := fun x hx => (show x ≠ b1 from by have h1 := (o2.blk x hx).1; have h2 := hbx1.lt; omega)
  have sb_b2_o2 := fun x hx => (show x ≠ b2 from by have h1 := (o2.blk x hx).1; have h2 := hbx2.lt; omega)
  have sb_b3_o2 := fun x hx => (show x ≠ b3 from by have h1 := (o2.blk x hx).1; have h2 := hb5.lt; omega)
  have z_km4 := km4.size
  replace hbx1 := hbx1.keep km4 (fun hm => by have h9 := List.mem_singleton.1 hm; omega)
  replace hbx2 := hbx2.keep km4 (fun hm => by have h9 := List.mem_singleton.1 hm; omega)
  replace rr := rr.keep km4 (fun x hx hm => by have h9 := List.mem_singleton.1 hm; omega)
  replace o1 := o1.keep km4 (fun x hx hm => by have h9 := List.mem_singleton.1 hm; have h8 := (o1.blk x hx).1; omega)
  replace hb5 := hb5.keep km4 (fun hm => by have h9 := List.mem_singleton.1 hm; omega)
  replace hB := hB.new km4 (fun x hm => .inl (by have h9 := List.mem_singleton.1 hm; omega))
  replace hK := hK.trans km4
  refine ow_g (g_faE 1 Try.underlying97 rfl ty23 (by decide) rfl rfl) rfl ?_
  refine ow_d0 (d_st ty23 rfl rfl (Rd.one (by first | assumption | exact Own.rd ‹_› | exact Rd.keep0 ‹_› hB | exact Own.rd (Own.keep0 ‹_› hB))) hb5 rfl) ?_
  rintro _ w14 ⟨hb6, k9, z6⟩
  replace hbx1 := hbx1.keep k9 (fun hm => absurd (List.mem_singleton.1 hm) ne_b1_b3)
  replace hbx2 := hbx2.keep k9 (fun hm => absurd (List.mem_singleton.1 hm) ne_b2_b3)
  replace rr := rr.keep k9 (fun x hx hm => (fun x (hx : x ≤ p1) => (show x ≠ b3 from by omega)) x hx (List.mem_singleton.1 hm))
  replace rl := rl.keep k9 (fun x hx hm => (fun x (hx : x ≤ p2) => (show x ≠ b3 from by omega)) x hx (List.mem_singleton.1 hm))
  replace o1 := o1.keep k9 (fun x hx hm => sb_b3_o1 x hx (List.mem_singleton.1 hm))
  replace o2 := o2.keep k9 (fun x hx hm => sb_b3_o2 x hx (List.mem_singleton.1 hm))
  replace hB := hB.new k9 (fun x hx => .inl ((List.mem_singleton.1 hx) ▸ ge_b3))
  replace hK := hK.new k9 (fun x hx => .inl ((List.mem_singleton.1 hx) ▸ zg_b3))
  clear z6
  replace hb6 : Bk w14 b3 _ [v1, v2, .slice none 0 0] := hb6
  refine ow_nil (tw_seq (tw_region (ow_g (g_mv rfl) rfl ?_)))
  have lv_o3 := rl.lt
  refine ow_d (d_call (vs := [_]) rfl (rvector_any _ _ _ _ rl)) rfl ?_
  rintro v3 w15 ⟨_, rfl, o3, rl, km5⟩
  have gl_o3 := hB.size
  have sb_b1_o3 := fun x hx => (show x ≠ b1 from by have h1 := (o3.blk x hx).1; have h2 := hbx1.lt; omega)
  have sb_b2_o3 := fun x hx => (show x ≠ b2 from by have h1 := (o3.blk x hx).1; have h2 := hbx2.lt; omega)
  have sb_b3_o3 := fun x hx => (show x ≠ b3 from by have h1 := (o3.blk x hx).1; have h2 := hb6.lt; omega)
  have z_km5 := km5.size
  replace hbx1 := hbx1.keep km5 (fun hm => by have h9 := List.mem_singleton.1 hm; omega)
  replace hbx2 := hbx2.keep km5 (fun hm => by have h9 := List.mem_singleton.1 hm; omega)
  replace rr := rr.keep km5 (fun x hx hm => by have h9 := List.mem_singleton.1 hm; omega)
  replace o1 := o1.keep km5 (fun x hx hm => by have h9 := List.mem_singleton.1 hm; have h8 := (o1.blk x hx).1; omega)
  replace o2 := o2.keep km5 (fun x hx hm => by have h9 := List.mem_singleton.1 hm; have h8 := (o2.blk x hx).1; omega)
  replace hb6 := hb6.keep km5 (fun hm => by have h9 := List.mem_singleton.1 hm; omega)
  replace hB := hB.new km5 (fun x hm => .inl (by have h9 := List.mem_singleton.1 hm; omega))
  replace hK := hK.trans km5
  refine ow_g (g_faE 2 Try.underlying97 rfl ty23 (by decide) rfl rfl) rfl ?_
  refine ow_d0 (d_st ty23 rfl rfl (Rd.one (by first | assumption | exact Own.rd ‹_› | exact Rd.keep0 ‹_› hB | exact Own.rd (Own.keep0 ‹_› hB))) hb6 rfl) ?_
  rintro _ w16 ⟨hb7, k10, z7⟩
  replace hbx1 := hbx1.keep k10 (fun hm => absurd (List.mem_singleton.1 hm) ne_b1_b3)
  replace hbx2 := hbx2.keep k10 (fun hm => absurd (List.mem_singleton.1 hm) ne_b2_b3)
  replace rr := rr.keep k10 (fun x hx hm => (fun x (hx : x ≤ p1) => (show x ≠ b3 from by omega)) x hx (List.mem_singleton.1 hm))
  replace rl := rl.keep k10 (fun x hx hm => (fun x (hx : x ≤ p2) => (show x ≠ b3 from by omega)) x hx (List.mem_singleton.1 hm))
  replace o1 := o1.keep k10 (fun x hx hm => sb_b3_o1 x hx (List.mem_singleton.1 hm))
  replace o2 := o2.keep k10 (fun x hx hm => sb_b3_o2 x hx (List.mem_singleton.1 hm))
  replace o3 := o3.keep k10 (fun x hx hm => sb_b3_o3 x hx (List.mem_singleton.1 hm))
  replace hB := hB.new k10 (fun x hx => .inl ((List.mem_singleton.1 hx) ▸ ge_b3))
  replace hK := hK.new k10 (fun x hx => .inl ((List.mem_singleton.1 hx) ▸ zg_b3))
  clear z7
  replace hb7 : Bk w16 b3 _ [v1, v2, v3] := hb7
  refine ow_nil (tw_region (ow_g (g_faE 0 Try.underlying25 rfl ty22 (by decide) rfl rfl) rfl ?_))
  refine ow_g (g_ldb sc22 rfl hbx2 rfl) rfl ?_
  refine ow_g (g_ldab (cs' := [_, _, _]) ag97 ty97 rfl hb7 rfl rfl) rfl ?_
  refine ow_d (d_bs (m := 1) (xs := [.tmp 37]) (vs := [_]) Try.underlying22 ty97 (by decide) rfl rfl rfl (by first | (simp; done) | (intro v hv; rw [List.mem_singleton] at hv; subst hv; rfl)) (by decide)) rfl ?_
  rintro v4 w17 ⟨o4, nn1, lb1, k11, z8⟩
  have gl_o4 := hB.size
  have sb_b1_o4 := fun x hx => (show x ≠ b1 from by have h1 := (o4.blk x hx).1; have h2 := hbx1.lt; omega)
  have sb_b2_o4 := fun x hx => (show x ≠ b2 from by have h1 := (o4.blk x hx).1; have h2 := hbx2.lt; omega)
  have sb_b3_o4 := fun x hx => (show x ≠ b3 from by have h1 := (o4.blk x hx).1; have h2 := hb7.lt; omega)
  replace hbx1 := hbx1.keep0 k11
  replace hbx2 := hbx2.keep0 k11
  replace rr := rr.keep0 k11
  replace rl := rl.keep0 k11
  replace o1 := o1.keep0 k11
  replace o2 := o2.keep0 k11
  replace o3 := o3.keep0 k11
  replace hb7 := hb7.keep0 k11
  replace hB := hB.trans k11
  have u_o4 := o4.blk
  replace hK := hK.trans k11.weak
  have zk6 := k6.size
  have zk7 := k7.size
  have zk8 := k8.size
  have zk9 := k9.size
  have zk10 := k10.size
  have zk11 := k11.size
  have hob : Rd _ 3 _ 1 [v1, v2, v3] := o4.rd
  replace ot := ot.keepL hK (fun x hm => by have h9 := List.mem_singleton.1 hm; omega)
  replace ovi := ovi.keep hK (fun x hx hm => by have h9 := List.mem_singleton.1 hm; have h8 := np_ovi x hx; omega)
  have zk_hK := hK.size
  refine ow_d (d_appT (t8 := 5) (z := (tri1 rest e).1) Try.underlying22 ty97 rfl rfl ot rfl hob (o1.lo (by omega)) (o2.lo (by omega)) (o3.lo (by omega)) (fun y hy hm => by have h1 := (o1.blk y hy).1; have h2 := (hqb y hm).2; omega) (fun y hy hm => by have h1 := (o2.blk y hy).1; have h2 := (hqb y hm).2; omega) (fun y hy hm => by have h1 := (o3.blk y hy).1; have h2 := (hqb y hm).2; omega) (by omega) (by omega)) rfl ?_
  rintro q1 w18 ⟨ot1, k12, lb2⟩
  have zk_k12 := k12.size
  replace hB := hB.new k12 (fun x hx => .inl (by have := (ot.blk x hx).1; omega))
  replace hbx1 := hbx1.keep k12 (fun hm => by have := (ot.blk _ hm).1; omega)
  replace hbx2 := hbx2.keep k12 (fun hm => by have := (ot.blk _ hm).1; omega)
  replace ovi := ovi.keep k12 (fun x hx hm => by have h1 := (ot.blk _ hm).1; have h2 := zo_ovi x hx; omega)
  replace rl := rl.keep k12 (fun x hx hm => by have := (ot.blk _ hm).1; omega)
  replace rr := rr.keep k12 (fun x hx hm => by have := (ot.blk _ hm).1; omega)
  refine ow_g (g_faE 0 Try.underlying25 rfl ty22 (by decide) rfl rfl) rfl ?_
  refine ow_d0 (d_st ty22 rfl rfl ot1.one hbx2 rfl) ?_
  rintro _ w19 ⟨hb8, k13, z9⟩
  have zk_k13 := k13.size
  replace hbx1 := hbx1.keep k13 (fun hm => absurd (List.mem_singleton.1 hm) ne_b1_b2)
  replace ovi := ovi.keep k13 (fun x hx hm => sb_b2_oi x hx (List.mem_singleton.1 hm))
  replace ot1 := ot1.keep k13 (fun x hx hm => (fun x hx => (show x ≠ b2 from by omega)) x hx (List.mem_singleton.1 hm))
  replace rl := rl.keep k13 (fun x hx hm => (fun x (hx : x ≤ p2) => (show x ≠ b2 from by omega)) x hx (List.mem_singleton.1 hm))
  replace rr := rr.keep k13 (fun x hx hm => (fun x (hx : x ≤ p1) => (show x ≠ b2 from by omega)) x hx (List.mem_singleton.1 hm))
  replace hB := hB.new k13 (fun x hx => .inl ((List.mem_singleton.1 hx) ▸ ge_b2))
  replace hb8 : Bk w19 b2 _ [q1, iw] := hb8
  clear z9
  refine ow_nil (tw_keep [(2, _), (4, _), (5, _), (6, _)] ⟨rfl, rfl, rfl, rfl, trivial⟩ ?_)
  refine tw_b ?_
  have hlt := triM_less (rest := rest) (e := e) (by omega) (by omega)
  refine tw_inv (Γ := Value × List Tri × List UInt8 × Int) ⟨q1, _, _, _⟩ ⟨rfl, rfl, rfl, rfl, trivial⟩ (by (try dsimp only); omega) (⟨triJ_step hJ (by omega) (by omega), small_step hsm rest e, ot1, ovi, hbx1, hb8, rr, rl, by omega, hB⟩)
 ·
  have hd2 := hc1
  try (simp only [Bool.and_eq_true, Bool.or_eq_true, decide_eq_true_eq, Bool.and_eq_false_iff, Bool.or_eq_false_iff, decide_eq_false_iff_not, Bool.not_eq_true', Bool.not_eq_false', Bool.not_eq_true, Bool.not_eq_false, ne_eq, Decidable.not_not, decide_true, decide_false, Bool.true_and, Bool.false_and, Bool.or_false, Bool.false_or, not_true_eq_false, false_or, or_false, true_and, and_true, not_false_eq_true, reduceCtorEq] at hd2)
  refine tw_exit rfl ?_
  refine tw_seq (tw_seq (tw_region ?_))
  have hend := triI_end hJ.1 (by omega)
  have hwp := welP_1 hend
  have hgi := getOk_iff c
  rw [hwp] at hgi
  dsimp only at hgi
  refine ow_g (g_mv rfl) rfl (ow_d (d_call (vs := [_]) rfl (rrend_any _ _ _ _ rr)) rfl ?_)
  rintro _ w20 ⟨rfl, k14⟩
  replace ot := ot.keep0 k14
  replace ovi := ovi.keep0 k14
  replace hbx1 := hbx1.keep0 k14
  replace hbx2 := hbx2.keep0 k14
  replace rr := rr.keep0 k14
  replace rl := rl.keep0 k14
  replace hB := hB.trans k14
  refine ow_g (g_ne rfl rfl) rfl ?_
  refine ow_g (g_mv rfl) rfl (ow_grp 44 false rfl (fun c2 hgc2 => ?_))
  refine ow_gg [(5, _)] (grd1 rfl rfl rfl hgc2) ⟨und0 rfl, trivial⟩ (fun hw6 => g_mv rfl) rfl ?_
  refine ow_gdk [(45, _)] (grd1 rfl rfl rfl hgc2) ⟨und1 rfl, trivial⟩ (fun hw7 => d_call (vs := [_]) rfl (rrend_any _ _ _ _ rl)) rfl ?_
  rintro w22 k16
  replace ot := ot.keep0 k16
  replace ovi := ovi.keep0 k16
  replace hbx1 := hbx1.keep0 k16
  replace hbx2 := hbx2.keep0 k16
  replace rr := rr.keep0 k16
  replace rl := rl.keep0 k16
  replace hB := hB.trans k16
  refine ow_gg [(46, _)] (grd1 rfl rfl rfl hgc2) ⟨und1 rfl, trivial⟩ (fun hw8 => g_ne rfl rfl) rfl ?_
  refine ow_g (g_por rfl rfl hgc2) rfl ?_
  refine ow_g (g_mv rfl) rfl (ow_grp 49 false rfl (fun c3 hgc3 => ?_))
  refine ow_gg [(6, _)] (grd1 rfl rfl rfl hgc3) ⟨und0 rfl, trivial⟩ (fun hw9 => g_ldab (cs' := [_, _]) ag25 ty25 rfl hbx2 rfl rfl) rfl ?_
  refine ow_gdk [(50, _)] (grd1 rfl rfl rfl hgc3) ⟨und1 rfl, trivial⟩ (fun hw10 => d_call (vs := [_]) rfl (rright_any _ _ xs (rVec (rVec c 0).2.1 (rVec c 0).2.2).1 _ ot.rdT ovi.rd (fun x hx => by have := hsm x hx; omega))) rfl ?_
  rintro w24 k18
  replace ot := ot.keep0 k18
  replace ovi := ovi.keep0 k18
  replace hbx1 := hbx1.keep0 k18
  replace hbx2 := hbx2.keep0 k18
  replace rr := rr.keep0 k18
  replace rl := rl.keep0 k18
  replace hB := hB.trans k18
  refine ow_gg [(51, _)] (grd1 rfl rfl rfl hgc3) ⟨und1 rfl, trivial⟩ (fun hw11 => g_not rfl) rfl ?_
  refine ow_g (g_por rfl rfl hgc3) rfl ?_
  refine ow_nil (tw_keep [(2, _), (6, _), (53, _)] ⟨rfl, rfl, rfl, trivial⟩ ?_)
  refine tw_cond rfl (fun hc2 => ?_) (fun hc2 => ?_)
  ·
   have hd3 := hc2
   try (simp only [Bool.and_eq_true, Bool.or_eq_true, decide_eq_true_eq, Bool.and_eq_false_iff, Bool.or_eq_false_iff, decide_eq_false_iff_not, Bool.not_eq_true', Bool.not_eq_false', Bool.not_eq_true, Bool.not_eq_false, ne_eq, Decidable.not_not, decide_true, decide_false, Bool.true_and, Bool.false_and, Bool.or_false, Bool.false_or, not_true_eq_false, false_or, or_false, true_and, and_true, not_false_eq_true, reduceCtorEq] at hd3)
   refine tw_seq (tw_region (ow_g (g_bld (idx := []) (xs := []) (vs := []) (css := []) (out := [_, _]) pl25 ty25 rfl rfl trivial rfl rfl) rfl ?_))
   refine ow_d0 (d_sta ty25 rfl rfl rfl (by simp only [List.forall_mem_cons]; refine ⟨rfl, rfl, fun v hv => by cases hv⟩) hbx1 rfl) ?_
   rintro _ w25 ⟨hb9, k19, z10⟩
   replace ot := ot.keep k19 (fun x hx hm => (fun x (hx : Z ≤ x) => (show x ≠ b1 from by omega)) x hx (List.mem_singleton.1 hm))
   replace ovi := ovi.keep k19 (fun x hx hm => (fun x hx => (show x ≠ b1 from by have := np_ovi x hx; omega)) x hx (List.mem_singleton.1 hm))
   replace hbx2 := hbx2.keep k19 (fun hm => absurd (List.mem_singleton.1 hm) (Ne.symm ne_b1_b2))
   replace hB := hB.new k19 (fun x hx => .inl ((List.mem_singleton.1 hx) ▸ ge_b1))
   clear z10
   replace hb9 : Bk w25 b1 _ [.slice none 0 0, .slice none 0 0] := hb9
   refine ow_g (g_as rfl) rfl (ow_nil (tw_retct hfin Try.results12 rfl (run_loadAgg ag25 ty25 ‹_› rfl) rfl ?_))
   have hg : getOk c = false := by
    rw [← Bool.not_eq_true, hgi]; intro h; simp_all
   exact ⟨_, _, by unfold getE; rw [hg]; rfl, by unfold getS; rw [hg]; exact rdT_nil _, by unfold getI; rw [hg]; exact Rd.nil _ _, hB⟩
  ·
   have hd4 := hc2
   try (simp only [Bool.and_eq_true, Bool.or_eq_true, decide_eq_true_eq, Bool.and_eq_false_iff, Bool.or_eq_false_iff, decide_eq_false_iff_not, Bool.not_eq_true', Bool.not_eq_false', Bool.not_eq_true, Bool.not_eq_false, ne_eq, Decidable.not_not, decide_true, decide_false, Bool.true_and, Bool.false_and, Bool.or_false, Bool.false_or, not_true_eq_false, false_or, or_false, true_and, and_true, not_false_eq_true, reduceCtorEq] at hd4)
   refine tw_skip (tw_seq (tw_region (ow_g (g_ldab (cs' := [_, _]) ag25 ty25 rfl hbx2 rfl rfl) rfl ?_)))
   refine ow_d0 (d_sta ty25 rfl rfl rfl (by simp only [List.forall_mem_cons]; exact ⟨ot.one, Rd.one ovi.rd, fun v hv => by cases hv⟩) hbx1 rfl) ?_
   rintro _ w26 ⟨hb10, k20, z11⟩
   replace ot := ot.keep k20 (fun x hx hm => (fun x (hx : Z ≤ x) => (show x ≠ b1 from by omega)) x hx (List.mem_singleton.1 hm))
   replace ovi := ovi.keep k20 (fun x hx hm => (fun x hx => (show x ≠ b1 from by have := np_ovi x hx; omega)) x hx (List.mem_singleton.1 hm))
   replace hbx2 := hbx2.keep k20 (fun hm => absurd (List.mem_singleton.1 hm) (Ne.symm ne_b1_b2))
   replace hB := hB.new k20 (fun x hx => .inl ((List.mem_singleton.1 hx) ▸ ge_b1))
   clear z11
   replace hb10 : Bk w26 b1 _ [q, iw] := hb10
   refine ow_g (g_as rfl) rfl (ow_nil (tw_retct hfin Try.results12 rfl (run_loadAgg ag25 ty25 ‹_› rfl) rfl ?_))
   have hg : getOk c = true := by
    rw [hgi]; simp_all
   exact ⟨_, _, by unfold getE; rw [hg]; rfl, by unfold getS; rw [hg, hwp]; exact ot.rdT, by unfold getI; rw [hg, hwp]; exact ovi.rd, hB⟩
end Go.Proofs.Ytimeclfplaonkaa.W
namespace Go.Proofs.Ytimeclfplaonkaa.W
open Go Go.Eng Go.Byt
set_option linter.unusedVariables false
set_option linter.unusedSimpArgs false
set_option maxRecDepth 100000 in
set_option maxHeartbeats 1000000 in
theorem lent_any (v : Value) (xs : List UInt8) (w : World) (hv : RdB w v xs) (hx : xs.length ≤ 140737488351232) : Rets Try.prog 7 [v] w (fun r w' => ∃ u, r = cut u 0 xs.length 1 ∧ Own w' w.heap.size 5 1 u (xs.length + 2) (bv (xs ++ [201, 202])) ∧ Keep [] w w') := by
 have hB : Keep [] w w := Keep.refl _ _
 refine rets_of_tw Try.func7 rfl (by decide) Try.ntmps7 rfl (fun fin _ hfin => ?_)
 refine tw_seq (tw_region (ow_g (g_as rfl) rfl (ow_nil (tw_seq (tw_region ?_)))))
 have gl_oa := hB.size
 refine ow_d (d_bs0 Try.underlying23 ty5 rfl) rfl ?_
 rintro _ wg ⟨g, rfl, hge, hg0, kg⟩
 replace hB := hB.trans kg
 refine ow_g (g_mv rfl) rfl (ow_d (d_app0 (lo := w.heap.size) Try.underlying23 ty5 rfl rfl rfl hg0 (hge ▸ Nat.le_refl _) rfl (hv.keep0 hB) (by omega)) rfl ?_)
 rintro va wa ⟨oa, ka⟩
 replace hB := hB.trans ka
 refine ow_g (g_as rfl) rfl (ow_nil (tw_seq (tw_region (ow_g (g_mv rfl) rfl ?_))))
 have hlo0 : w.heap.size ≤ wa.heap.size := Nat.le_trans kg.size ka.size
 refine ow_d (d_bs (m := 2) (xs := [.const (.int .u8 (201)), .const (.int .u8 (202))]) (vs := [_, _]) Try.underlying23 ty5 (by decide) rfl rfl rfl (by simp only [List.forall_mem_cons]; exact ⟨rfl, rfl, fun v hv => by cases hv⟩) (by decide)) rfl ?_
 rintro v1 w1 ⟨o1, nn1, lb1, k1, z1⟩
 have gl_o1 := hB.size
 replace oa := oa.keep0 k1
 replace hB := hB.trans k1
 have u_o1 := o1.blk
 replace o1 : Own w1 _ _ 1 v1 2 (bv [201, 202]) := o1
 have hlo := Nat.le_trans hlo0 k1.size
 refine ow_d (d_appB Try.underlying23 ty5 rfl oa rfl (show RdB _ _ [201, 202] from o1.rd) (by show xs.length + 2 ≤ _; omega) hlo) rfl ?_
 rintro vb wb ⟨ob, kb, _, _⟩
 replace hB := hB.new kb (fun x hx => .inl (Nat.le_trans gl_oa (oa.blk x hx).1))
 refine ow_g (g_as rfl) rfl (ow_nil (tw_seq (tw_region (ow_g (g_mv rfl) rfl (ow_g (g_mv rfl) rfl (ow_g (g_len Try.underlying23 rfl (by first | assumption | exact Own.rd ‹_› | exact Rd.keep0 ‹_› hB | exact Own.rd (Own.keep0 ‹_› hB))) rfl ?_))))))
 refine ow_g (g_sl Try.underlying23 ty5 rfl ob.rd (.inl ⟨rfl, rfl⟩) (.inr ⟨_, _, rfl, rfl⟩) (by have := ob.rd.vcap; have : [(201 : UInt8), 202].length = 2 := rfl; omega)) rfl ?_
 refine ow_g (g_as rfl) rfl (ow_nil (tw_keep [(2, _)] ⟨rfl, trivial⟩ ?_))
 refine tw_ret1 hfin Try.results7 rfl ?_
 exact ⟨vb, rfl, ob.lo gl_oa, hB⟩
set_option maxRecDepth 100000 in
set_option maxHeartbeats 1000000 in
theorem stays_any (u v : Value) (xs : List UInt8) (lo : Nat) (w : World) (ho : Own w lo 5 1 u (xs.length + 2) (bv (xs ++ [201, 202]))) (hv : RdB w v xs) (hx : xs.length ≤ 140737488351232) : Rets Try.prog 15 [cut u 0 xs.length 1, v] w (fun r w' => r = .bool true ∧ Keep [] w w') := by
  have hB : Keep [] w w := Keep.refl _ _
  obtain ⟨u10, hu10⟩ : ∃ u10, u10 = cut (cut u 0 xs.length 1) (0 : Int).toNat ((xs.length : Int) + 2).toNat 1 := ⟨_, rfl⟩
  have hall : RdB w u (xs ++ [201, 202]) := by unfold RdB; rw [List.length_append]; exact ho.rd
  have h10 : RdB w u10 (xs ++ [201, 202]) := by
    have e : cut (cut u 0 xs.length 1) (0 : Int).toNat ((xs.length : Int) + 2).toNat 1 = cut u 0 (xs.length + 2) 1 := by rw [show (0 : Int).toNat = 0 from rfl, show ((xs.length : Int) + 2).toNat = xs.length + 2 by omega]; exact cut_cut hall
    rw [hu10, e]
    have h := hall.cutB (l := 0) (hi := xs.length + 2) (by omega) (by simp)
    rwa [List.drop_zero, Nat.sub_zero, List.take_of_length_le (by simp)] at h
  have h14 : RdB w (cut u10 0 xs.length 1) xs := by
    have h := h10.cutB (l := 0) (hi := xs.length) (by omega) (by simp)
    rwa [List.drop_zero, Nat.sub_zero, List.take_left' rfl] at h
  have hcap : (0 : Int) ≤ 0 ∧ (0 : Int) ≤ (xs.length : Int) + 2 ∧ (xs.length : Int) + 2 ≤ (vcap (cut u 0 xs.length 1) : Int) := by
    obtain ⟨A, c, e, h1, h2, _⟩ := hall
    subst e
    rw [List.length_append] at h1
    have h1 : xs.length + 2 ≤ c := h1
    refine ⟨Int.le_refl _, by omega, ?_⟩
    show (xs.length : Int) + 2 ≤ ((c - 0 : Nat) : Int)
    omega
  refine rets_of_tw Try.func15 rfl (by decide) Try.ntmps15 rfl (fun fin _ hfin => ?_)
  refine tw_seq ?_
  refine tw_region ?_
  refine ow_g (g_as rfl) rfl ?_
  refine ow_nil ?_
  refine tw_seq ?_
  refine tw_region ?_
  refine ow_g (g_mv rfl) rfl ?_
  refine ow_g (g_mv rfl) rfl ?_
  refine ow_g (g_len Try.underlying23 rfl (by first | assumption | exact Own.rd (by assumption) | exact Rd.keep0 (by assumption) hB | exact Own.rd (Own.keep0 (by assumption) hB))) rfl ?_
  refine ow_g (g_add rfl rfl (by omega)) rfl ?_
  refine ow_g (v := u10) (by rw [hu10]; exact g_sl Try.underlying23 ty5 rfl (lent_rd ho) (.inl ⟨rfl, rfl⟩) (.inr ⟨_, _, rfl, rfl⟩) hcap) rfl ?_
  refine ow_g (g_as rfl) rfl ?_
  refine ow_nil ?_
  refine tw_seq ?_
  refine tw_planA 26 [0, 1, 2, 3, 4, 5, 6, 7, 8, 9, 10, 11, 12, 13, 14, 15, 16, 17, 18, 19, 20, 21, 22, 23, 24, 25] [] [] [] mixed [(5, _), (1, _)] ⟨rfl, rfl, trivial⟩ (by decide +kernel) (by decide) (by decide) ?_ (fun x hx => by cases hx) rfl (fun w1 k1 => ?_)
  · intro q hq; cases hq
  replace hB := hB.trans k1
  refine pa_g [(5, _)] rfl rfl ⟨rfl, trivial⟩ rfl (fun W' kk => g_mv rfl) ?_
  refine pa_g [(1, _)] rfl rfl ⟨rfl, trivial⟩ rfl (fun W' kk => g_mv rfl) ?_
  refine pa_g [(12, _)] rfl rfl ⟨rfl, trivial⟩ rfl (fun W' kk => g_len Try.underlying23 rfl (by first | exact Rd.keep0 (by assumption) kk | exact Rd.keep0 (Own.rd (by assumption)) kk | exact Rd.keep0 (Rd.keep0 (by assumption) hB) kk | exact Rd.keep0 (Own.rd (Own.keep0 (by assumption) hB)) kk)) ?_
  refine pa_g [(11, _), (13, _)] rfl rfl ⟨rfl, rfl, trivial⟩ rfl (fun W' kk => g_sl Try.underlying23 ty5 rfl (by first | exact Rd.keep0 (by assumption) kk | exact Rd.keep0 (Own.rd (by assumption)) kk | exact Rd.keep0 (Rd.keep0 (by assumption) hB) kk | exact Rd.keep0 (Own.rd (Own.keep0 (by assumption) hB)) kk) (.inl ⟨rfl, rfl⟩) (.inr ⟨_, _, rfl, rfl⟩) (by have := h10.vcap; simp only [List.length_append, List.length_cons, List.length_nil] at this; omega)) ?_
  refine pa_g [(14, _)] rfl rfl ⟨rfl, trivial⟩ rfl (fun W' kk => g_str Try.underlying23 Try.underlying5 Try.underlying9 rfl (by first | exact Rd.keep0 (by assumption) kk | exact Rd.keep0 (Own.rd (by assumption)) kk | exact Rd.keep0 (Rd.keep0 (by assumption) hB) kk | exact Rd.keep0 (Own.rd (Own.keep0 (by assumption) hB)) kk)) ?_
  refine pa_g [(1, _)] rfl rfl ⟨rfl, trivial⟩ rfl (fun W' kk => g_mv rfl) ?_
  refine pa_g [(16, _)] rfl rfl ⟨rfl, trivial⟩ rfl (fun W' kk => g_str Try.underlying23 Try.underlying5 Try.underlying9 rfl (by first | exact Rd.keep0 (by assumption) kk | exact Rd.keep0 (Own.rd (by assumption)) kk | exact Rd.keep0 (Rd.keep0 (by assumption) hB) kk | exact Rd.keep0 (Own.rd (Own.keep0 (by assumption) hB)) kk)) ?_
  refine pa_g [(15, _), (17, _)] rfl rfl ⟨rfl, rfl, trivial⟩ rfl (fun W' kk => g_eqs rfl rfl) ?_
  refine pa_g [(18, _)] rfl rfl ⟨rfl, trivial⟩ rfl (fun W' kk => g_mv rfl) ?_
  refine pa_gt [(5, _), (19, _)] rfl rfl ⟨rfl, rfl, trivial⟩ rfl (grdT rfl rfl rfl (decide_eq_true rfl)) (fun W' kk => g_mv rfl) ?_
  refine pa_gt [(1, _), (19, _)] rfl rfl ⟨rfl, rfl, trivial⟩ rfl (grdT rfl rfl rfl (decide_eq_true rfl)) (fun W' kk => g_mv rfl) ?_
  refine pa_gt [(19, _), (21, _)] rfl rfl ⟨rfl, rfl, trivial⟩ rfl (grdT rfl rfl rfl (decide_eq_true rfl)) (fun W' kk => g_len Try.underlying23 rfl (by first | exact Rd.keep0 (by assumption) kk | exact Rd.keep0 (Own.rd (by assumption)) kk | exact Rd.keep0 (Rd.keep0 (by assumption) hB) kk | exact Rd.keep0 (Own.rd (Own.keep0 (by assumption) hB)) kk)) ?_
  refine pa_gt [(19, _), (20, _), (22, _)] rfl rfl ⟨rfl, rfl, rfl, trivial⟩ rfl (grdT rfl rfl rfl (decide_eq_true rfl)) (fun W' kk => g_ix Try.underlying23 ty5 rfl (by first | exact Rd.keep0 (by assumption) kk | exact Rd.keep0 (Own.rd (by assumption)) kk | exact Rd.keep0 (Rd.keep0 (by assumption) hB) kk | exact Rd.keep0 (Own.rd (Own.keep0 (by assumption) hB)) kk) rfl (by simp only [List.length_append, List.length_cons, List.length_nil]; omega)) ?_
  refine pa_gt [(19, _), (23, _)] rfl rfl ⟨rfl, rfl, trivial⟩ rfl (grdT rfl rfl rfl (decide_eq_true rfl)) (fun W' kk => g_ldB sc5 rfl (by first | exact Rd.keep0 (by assumption) kk | exact Rd.keep0 (Own.rd (by assumption)) kk | exact Rd.keep0 (Rd.keep0 (by assumption) hB) kk | exact Rd.keep0 (Own.rd (Own.keep0 (by assumption) hB)) kk) (by simp only [List.length_append, List.length_cons, List.length_nil]; omega)) ?_
  refine pa_gt [(19, _), (24, _)] rfl rfl ⟨rfl, rfl, trivial⟩ rfl (grdT rfl rfl rfl (decide_eq_true rfl)) (fun W' kk => g_eq rfl rfl) ?_
  refine pa_g [(19, _), (25, _)] rfl rfl ⟨rfl, rfl, trivial⟩ rfl (fun W' kk => g_pickT rfl (decide_eq_true rfl) rfl) ?_
  refine pa_g [(26, _)] rfl rfl ⟨rfl, trivial⟩ rfl (fun W' kk => g_mv rfl) ?_
  refine pa_gt [(5, _), (27, _)] rfl rfl ⟨rfl, rfl, trivial⟩ rfl (grdT rfl rfl rfl (decide_eq_true (mark1 xs))) (fun W' kk => g_mv rfl) ?_
  refine pa_gt [(1, _), (27, _)] rfl rfl ⟨rfl, rfl, trivial⟩ rfl (grdT rfl rfl rfl (decide_eq_true (mark1 xs))) (fun W' kk => g_mv rfl) ?_
  refine pa_gt [(27, _), (29, _)] rfl rfl ⟨rfl, rfl, trivial⟩ rfl (grdT rfl rfl rfl (decide_eq_true (mark1 xs))) (fun W' kk => g_len Try.underlying23 rfl (by first | exact Rd.keep0 (by assumption) kk | exact Rd.keep0 (Own.rd (by assumption)) kk | exact Rd.keep0 (Rd.keep0 (by assumption) hB) kk | exact Rd.keep0 (Own.rd (Own.keep0 (by assumption) hB)) kk)) ?_
  refine pa_gt [(27, _), (30, _)] rfl rfl ⟨rfl, rfl, trivial⟩ rfl (grdT rfl rfl rfl (decide_eq_true (mark1 xs))) (fun W' kk => g_add rfl rfl (by omega)) ?_
  refine pa_gt [(27, _), (28, _), (31, _)] rfl rfl ⟨rfl, rfl, rfl, trivial⟩ rfl (grdT rfl rfl rfl (decide_eq_true (mark1 xs))) (fun W' kk => g_ix Try.underlying23 ty5 rfl (by first | exact Rd.keep0 (by assumption) kk | exact Rd.keep0 (Own.rd (by assumption)) kk | exact Rd.keep0 (Rd.keep0 (by assumption) hB) kk | exact Rd.keep0 (Own.rd (Own.keep0 (by assumption) hB)) kk) rfl (by simp only [List.length_append, List.length_cons, List.length_nil]; omega)) ?_
  refine pa_gt [(27, _), (32, _)] rfl rfl ⟨rfl, rfl, trivial⟩ rfl (grdT rfl rfl rfl (decide_eq_true (mark1 xs))) (fun W' kk => g_ldB sc5 rfl (by first | exact Rd.keep0 (by assumption) kk | exact Rd.keep0 (Own.rd (by assumption)) kk | exact Rd.keep0 (Rd.keep0 (by assumption) hB) kk | exact Rd.keep0 (Own.rd (Own.keep0 (by assumption) hB)) kk) (by simp only [List.length_append, List.length_cons, List.length_nil]; omega)) ?_
  refine pa_gt [(27, _), (33, _)] rfl rfl ⟨rfl, rfl, trivial⟩ rfl (grdT rfl rfl rfl (decide_eq_true (mark1 xs))) (fun W' kk => g_eq rfl rfl) ?_
  refine pa_g [(27, _), (34, _)] rfl rfl ⟨rfl, rfl, trivial⟩ rfl (fun W' kk => g_pickT rfl (decide_eq_true (mark1 xs)) rfl) ?_
  refine pa_g [(35, _)] rfl rfl ⟨rfl, trivial⟩ rfl (fun W' kk => g_as rfl) ?_
  refine pa_nil (fun w2 k2 => ?_)
  replace hB := hB.trans k2
  refine fina_nil ?_
  refine ow_nil ?_
  refine tw_keep [(4, _)] ⟨rfl, trivial⟩ ?_
  refine tw_ret1 hfin Try.results15 rfl ?_
  exact ⟨by rw [decide_eq_true (mark2 xs)], hB⟩
set_option maxRecDepth 100000 in
set_option maxHeartbeats 1000000 in
theorem putb0_any (w : World) : Rets Try.prog 26 [.agg [.slice none 0 0, .slice none 0 0].toArray] w (fun v w' => ∃ u, v = .tuple #[u, .int .i64 0] ∧ OwnB w' w.heap.size u [0, 0] ∧ Keep [] w w') := by
 have hB : Keep [] w w := Keep.refl _ _
 refine rets_of_tw Try.func26 rfl (by decide) Try.ntmps26 rfl (fun fin _ hfin => ?_)
 refine tw_seq (tw_region (ow_d (d_box (cs := [.slice none 0 0, .slice none 0 0]) rfl rfl) rfl ?_))
 rintro _ w1 ⟨b1, rfl, eb1, hb1, k1, z1⟩
 have ge_b1 : w.heap.size ≤ b1 := by have := hB.size; omega
 replace hB := hB.trans k1
 clear eb1 z1
 refine ow_g (g_as rfl) rfl (ow_g (g_as rfl) rfl (ow_nil (tw_seq (tw_seq (tw_region (ow_g (g_faE 0 Try.underlying70 rfl ty68 (by decide) rfl rfl) rfl ?_))))))
 refine ow_g (g_ldb sc68 rfl hb1 rfl) rfl ?_
 refine ow_g (g_len Try.underlying68 rfl (Rd.nil _ 1)) rfl ?_
 refine ow_g (g_gt rfl rfl) rfl ?_
 refine ow_g (g_mv rfl) rfl (ow_gy (grdT rfl rfl rfl (decide_eq_false (by decide))) (g_faE 1 Try.underlying70 rfl ty23 (by decide) rfl rfl) rfl ?_)
 refine ow_gy (grdT rfl rfl rfl (decide_eq_false (by decide))) (g_ldb sc23 rfl hb1 rfl) rfl ?_
 refine ow_gy (grdT rfl rfl rfl (decide_eq_false (by decide))) (g_len Try.underlying23 rfl (Rd.nil _ 1)) rfl ?_
 refine ow_gy (grdT rfl rfl rfl (decide_eq_false (by decide))) (g_gt rfl rfl) rfl ?_
 refine ow_g (g_pickF rfl (decide_eq_false (by decide)) rfl) rfl ?_
 refine ow_nil (tw_keep [(1, _), (18, _)] ⟨rfl, rfl, trivial⟩ ?_)
 refine tw_ifF rfl (by decide) ?_
 refine tw_skip (tw_seq (tw_region (ow_g (g_as rfl) rfl (ow_nil (tw_seq (tw_seq ?_))))))
 refine tw_region (ow_g (g_faE 0 Try.underlying70 rfl ty68 (by decide) rfl rfl) rfl ?_)
 refine ow_g (g_ldb sc68 rfl hb1 rfl) rfl ?_
 refine ow_g (g_len Try.underlying68 rfl (Rd.nil _ 1)) rfl ?_
 refine ow_g (g_mv rfl) rfl (ow_nil (tw_block (tw_unroll 1 ?_)))
 refine tw_seq (tw_region (ow_g (g_lt rfl rfl) rfl ?_))
 refine ow_nil (tw_seq (tw_ifF rfl (by decide) ?_))
 refine tw_exit rfl ?_
 refine tw_seq (tw_region (ow_g (g_mv rfl) rfl (ow_g (g_faE 1 Try.underlying70 rfl ty23 (by decide) rfl rfl) rfl ?_)))
 refine ow_g (g_ldb sc23 rfl hb1 rfl) rfl ?_
 refine ow_d (d_bsL (m := 2) (ls := [[], []]) (xs := [.tmp 67, .tmp 69]) (us := [_, _]) Try.underlying102 ty23 rfl rfl (rdL_cons (by first | exact Rd.nil _ _ | exact (by first | assumption | exact Own.rd ‹_› | exact Rd.keep0 ‹_› hB | exact Own.rd (Own.keep0 ‹_› hB))) (rdL_cons (by first | exact Rd.nil _ _ | exact (by first | assumption | exact Own.rd ‹_› | exact Rd.keep0 ‹_› hB | exact Own.rd (Own.keep0 ‹_› hB))) (rdL_nil _))) rfl rfl) rfl ?_
 rintro v1 w2 ⟨sl1, k2⟩
 replace hb1 := hb1.keep0 k2
 replace hB := hB.trans k2
 refine ow_d (d_call (vs := [_]) rfl (gvectors_any _ _ _ _ ‹_› (by decide))) rfl ?_
 rintro v2 w3 ⟨o2, k3⟩
 have gl_o2 := hB.size
 have sb_b1_o2 := fun x hx => (show x ≠ b1 from by have h1 := (o2.blk x hx).1; have h2 := hb1.lt; omega)
 replace hb1 := hb1.keep0 k3
 replace sl1 := sl1.keep0 k3
 replace hB := hB.trans k3
 have u_o2 := o2.blk
 refine ow_g (g_as rfl) rfl (ow_g (g_as rfl) rfl (ow_nil (tw_keep [(2, _), (3, _)] ⟨rfl, rfl, trivial⟩ ?_)))
 refine tw_ret2 hfin Try.results26 rfl rfl ?_
 exact ⟨_, rfl, o2.lo gl_o2, hB⟩
set_option maxRecDepth 100000 in
set_option maxHeartbeats 1000000 in
theorem wknows_any (w : World) : Rets Try.prog 16 [] w (fun r w' => r = .bool true ∧ Keep [] w w') := by
 have hB : Keep [] w w := Keep.refl _ _
 refine rets_of_tw Try.func16 rfl (by decide) Try.ntmps16 rfl (fun fin _ hfin => ?_)
 refine tw_seq (tw_region (ow_g (g_as rfl) rfl (ow_nil (tw_seq (tw_region (ow_g (g_bld (idx := []) (xs := []) (vs := []) (css := []) (out := [_, _]) pl70 ty70 rfl rfl trivial rfl rfl) rfl ?_))))))
 refine ow_d (d_call (vs := [_]) rfl (putb0_any _)) rfl ?_
 rintro _ w1 ⟨u1, rfl, o1, k1⟩
 have gl_o1 := hB.size
 replace hB := hB.trans k1
 have u_o1 := o1.blk
 refine ow_g (g_mv rfl) rfl (ow_g (g_ext (vs := [_, _]) rfl rfl) rfl ?_)
 refine ow_g (g_ext (vs := [_, _]) rfl rfl) rfl ?_
 refine ow_g (g_as rfl) rfl (ow_g (g_as rfl) rfl (ow_nil (tw_seq (tw_region (ow_d (d_call (vs := [_]) rfl (getw_any _ [] _ (Rd.nil _ _) (by decide))) rfl ?_)))))
 rintro _ w2 ⟨q1, u2, rfl, Q1, U1, k2⟩
 replace o1 := o1.keep0 k2
 replace hB := hB.trans k2
 refine ow_g (g_mv rfl) rfl (ow_g (g_ext (vs := [_, _]) rfl rfl) rfl ?_)
 refine ow_g (g_ext (vs := [_, _]) rfl rfl) rfl ?_
 refine ow_d (d_alloc ty29) rfl ?_
 rintro _ w3 ⟨b1, rfl, eb1, hb1, k3, z1⟩
 have ge_b1 : w.heap.size ≤ b1 := by have := hB.size; omega
 have sb_b1_o1 := fun x hx => (show x ≠ b1 from by have := (o1.blk x hx).2; omega)
 replace o1 := o1.keep0 k3
 replace hB := hB.trans k3
 clear eb1 z1
 refine ow_d0 (d_sta ty29 rfl rfl rfl (by simp only [List.forall_mem_cons]; exact ⟨Q1.one, U1.one, fun v hv => by cases hv⟩) hb1 rfl) ?_
 rintro _ w4 ⟨hb2, k4, z2⟩
 replace o1 := o1.keep k4 (fun x hx hm => sb_b1_o1 x hx (List.mem_singleton.1 hm))
 replace hB := hB.new k4 (fun x hx => .inl ((List.mem_singleton.1 hx) ▸ ge_b1))
 clear z2
 replace hb2 : Bk w4 b1 _ [q1, u2] := hb2
 refine ow_g (g_as rfl) rfl (ow_nil (tw_keep [(1, _), (2, _), (4, _)] ⟨rfl, rfl, rfl, trivial⟩ ?_))
 refine tw_seq (tw_region (ow_g (g_mv rfl) rfl (ow_d (d_call (vs := [_]) rfl (wnum_any _ _)) rfl ?_)))
 rintro _ _ ⟨rfl, rfl⟩
 refine ow_g (g_eq rfl rfl) rfl ?_
 refine ow_g (g_mv rfl) rfl (ow_gy (grdT rfl rfl rfl (decide_eq_true rfl)) (g_mv rfl) rfl ?_)
 refine ow_gy (grdT rfl rfl rfl (decide_eq_true rfl)) (g_str Try.underlying23 Try.underlying5 Try.underlying9 rfl (by first | assumption | exact Own.rd ‹_› | exact Rd.keep0 ‹_› hB | exact Own.rd (Own.keep0 ‹_› hB))) rfl ?_
 refine ow_gy (grdT rfl rfl rfl (decide_eq_true rfl)) (g_eqs (a := [0, 0]) (b := [0, 0]) rfl rfl) rfl ?_
 refine ow_g (g_pickT rfl (decide_eq_true rfl) rfl) rfl ?_
 refine ow_g (g_mv rfl) rfl (ow_gy (grdT rfl rfl rfl (decide_eq_true rfl)) (g_mv rfl) rfl ?_)
 refine ow_dy (grdT rfl rfl rfl (decide_eq_true rfl)) (d_call (vs := [_]) rfl (wnum_any _ _)) rfl ?_
 rintro _ _ ⟨rfl, rfl⟩
 refine ow_gy (grdT rfl rfl rfl (decide_eq_true rfl)) (g_eq rfl rfl) rfl ?_
 refine ow_g (g_pickT rfl (decide_eq_true rfl) rfl) rfl ?_
 refine ow_g (g_as rfl) rfl (ow_nil (tw_keep [(0, _)] ⟨rfl, trivial⟩ ?_))
 refine tw_ret1 hfin Try.results16 rfl ?_
 exact ⟨by first | rfl | decide, hB⟩
end Go.Proofs.Ytimeclfplaonkaa.W
namespace Go.Proofs.Ytimeclfplaonkaa.W
open Go Go.Eng Go.Byt
set_option linter.unusedVariables false
set_option linter.unusedSimpArgs false
attribute [local irreducible] welE welB getS getI getE
set_option maxRecDepth 100000 in
set_option maxHeartbeats 1000000 in
theorem welcomes_any (v : Value) (c : List UInt8) (sv iv : Value) (ss : List Tri) (info : List UInt8) (w : World) (hs : RdT w sv ss) (hi : RdB w iv info) (hsm : ∀ x ∈ ss, x.1.length ≤ 140737488351232 ∧ x.2.1.length ≤ 140737488351232 ∧ x.2.2.length ≤ 140737488351232) (hcn : ss.length * 72 ≤ 140737488351232) (hil : info.length ≤ 140737488351232) (hv : RdB w v c) (hc : c.length ≤ 140737488351232) : Rets Try.prog 3 [.agg [sv, iv].toArray, v] w (fun r w' => r = .bool true ∧ Keep [] w w') := by
 have hB : Keep [] w w := Keep.refl _ _
 have hs' := hs
 obtain ⟨css, hEl, hsl⟩ := hs'
 refine rets_of_tw Try.func3 rfl (by decide) Try.ntmps3 rfl (fun fin _ hfin => ?_)
 refine tw_seq (tw_region (ow_d (d_box (cs := [sv, iv]) rfl rfl) rfl ?_))
 rintro _ w1 ⟨b1, rfl, eb1, hb1, k1, z1⟩
 have ge_b1 : w.heap.size ≤ b1 := by have := hB.size; omega
 replace hB := hB.trans k1
 clear eb1 z1
 refine ow_g (g_as rfl) rfl (ow_nil (tw_seq (tw_region (ow_g (g_mv rfl) rfl (ow_d (d_call (vs := [_]) rfl (lent_any _ c _ (by first | assumption | exact Own.rd ‹_› | exact Rd.keep0 ‹_› hB | exact Own.rd (Own.keep0 ‹_› hB)) hc)) rfl ?_)))))
 rintro _ w2 ⟨u1, rfl, o1, k2⟩
 have gl_o1 := hB.size
 have sb_b1_o1 := fun x hx => (show x ≠ b1 from by have h1 := (o1.blk x hx).1; have h2 := hb1.lt; omega)
 replace hb1 := hb1.keep0 k2
 replace hB := hB.trans k2
 have u_o1 := o1.blk
 refine ow_g (g_as rfl) rfl (ow_nil (tw_seq (tw_region (ow_g (g_ldab (cs' := [_, _]) ag25 ty25 rfl hb1 rfl rfl) rfl ?_))))
 refine ow_d (d_call (vs := [_]) rfl (wel_any _ _ _ _ _ (RdT.keep0 hs hB) (Rd.keep0 hi hB) hsm hcn hil)) rfl ?_
 rintro _ w3 ⟨q1, x1, rfl, P1, U1, k3⟩
 replace hb1 := hb1.keep0 k3
 replace o1 := o1.keep0 k3
 replace hB := hB.trans k3
 have hK1 : Keep [] w3 w3 := Keep.refl _ _
 refine ow_d (d_alloc ty29) rfl ?_
 rintro _ w4 ⟨b2, rfl, eb2, hb2, k4, z2⟩
 have gb_hK1_b2 : w3.heap.size ≤ b2 := by have := hK1.size; omega
 have ge_b2 : w.heap.size ≤ b2 := by have := hB.size; omega
 have ne_b1_b2 : b1 ≠ b2 := by have := hb1.lt; omega
 have sb_b2_o1 := fun x hx => (show x ≠ b2 from by have := (o1.blk x hx).2; omega)
 replace hb1 := hb1.keep0 k4
 replace o1 := o1.keep0 k4
 replace hB := hB.trans k4
 replace hK1 := hK1.trans k4
 clear eb2 z2
 refine ow_d0 (d_sta ty29 rfl rfl rfl (by simp only [List.forall_mem_cons]; exact ⟨(RdT.keep0 P1.rdT hK1).one, (Rd.keep0 U1.rd hK1).one, fun v hv => by cases hv⟩) hb2 rfl) ?_
 rintro _ w5 ⟨hb3, k5, z3⟩
 replace hb1 := hb1.keep k5 (fun hm => absurd (List.mem_singleton.1 hm) ne_b1_b2)
 replace o1 := o1.keep k5 (fun x hx hm => sb_b2_o1 x hx (List.mem_singleton.1 hm))
 replace hB := hB.new k5 (fun x hx => .inl ((List.mem_singleton.1 hx) ▸ ge_b2))
 replace hK1 := hK1.new k5 (fun x hx => .inl ((List.mem_singleton.1 hx) ▸ gb_hK1_b2))
 clear z3
 replace hb3 : Bk w5 b2 _ [q1, x1] := hb3
 refine ow_nil (tw_seq (tw_region (ow_g (g_ldab (cs' := [_, _]) ag29 ty29 rfl hb3 rfl rfl) rfl ?_)))
 refine ow_d (d_call (vs := [_]) rfl (gput_any _ _ _ _ _ (RdT.keep0 P1.rdT hK1) (Rd.keep0 U1.rd hK1) hsm)) rfl ?_
 rintro _ w6 ⟨u2, rfl, o2, k6⟩
 have gl_o2 := hB.size
 have sb_b1_o2 := fun x hx => (show x ≠ b1 from by have h1 := (o2.blk x hx).1; have h2 := hb1.lt; omega)
 have sb_b2_o2 := fun x hx => (show x ≠ b2 from by have h1 := (o2.blk x hx).1; have h2 := hb3.lt; omega)
 replace hb1 := hb1.keep0 k6
 replace o1 := o1.keep0 k6
 replace hb3 := hb3.keep0 k6
 replace hB := hB.trans k6
 have u_o2 := o2.blk
 replace hK1 := hK1.trans k6
 refine ow_g (g_mv rfl) rfl (ow_g (g_ext (vs := [_, _]) rfl rfl) rfl ?_)
 refine ow_g (g_ext (vs := [_, _]) rfl rfl) rfl ?_
 refine ow_g (g_as rfl) rfl (ow_g (g_as rfl) rfl (ow_nil (tw_keep [(1, _), (2, _), (5, _), (6, _), (7, _), (8, _)] ⟨rfl, rfl, rfl, rfl, rfl, rfl, trivial⟩ ?_)))
 refine tw_seq (tw_region (ow_g (g_ldab (cs' := [_, _]) ag25 ty25 rfl hb1 rfl rfl) rfl ?_))
 refine ow_d (d_call (vs := [_]) rfl (rput_any _ _ _ _ _ (RdT.keep0 hs hB) (Rd.keep0 hi hB) hsm)) rfl ?_
 rintro _ w7 ⟨u3, rfl, o3, k7⟩
 have gl_o3 := hB.size
 have sb_b1_o3 := fun x hx => (show x ≠ b1 from by have h1 := (o3.blk x hx).1; have h2 := hb1.lt; omega)
 have sb_b2_o3 := fun x hx => (show x ≠ b2 from by have h1 := (o3.blk x hx).1; have h2 := hb3.lt; omega)
 replace hb1 := hb1.keep0 k7
 replace o1 := o1.keep0 k7
 replace hb3 := hb3.keep0 k7
 replace o2 := o2.keep0 k7
 replace hB := hB.trans k7
 have u_o3 := o3.blk
 replace hK1 := hK1.trans k7
 refine ow_g (g_mv rfl) rfl (ow_g (g_ext (vs := [_, _]) rfl rfl) rfl ?_)
 refine ow_g (g_ext (vs := [_, _]) rfl rfl) rfl ?_
 refine ow_g (g_as rfl) rfl (ow_g (g_as rfl) rfl (ow_nil (tw_seq (tw_region (ow_g (g_mv rfl) rfl (ow_d (d_call (vs := [_]) rfl (getw_any _ c _ (lent_rd o1) hc)) rfl ?_))))))
 rintro _ w8 ⟨q2, u4, rfl, Q1, U2, k8⟩
 replace hb1 := hb1.keep0 k8
 replace o1 := o1.keep0 k8
 replace hb3 := hb3.keep0 k8
 replace o2 := o2.keep0 k8
 replace o3 := o3.keep0 k8
 replace hB := hB.trans k8
 replace hK1 := hK1.trans k8
 have hK2 : Keep [] w8 w8 := Keep.refl _ _
 refine ow_g (g_mv rfl) rfl (ow_g (g_ext (vs := [_, _]) rfl rfl) rfl ?_)
 refine ow_g (g_ext (vs := [_, _]) rfl rfl) rfl ?_
 refine ow_d (d_alloc ty29) rfl ?_
 rintro _ w9 ⟨b3, rfl, eb3, hb4, k9, z4⟩
 have gb_hK1_b3 : w3.heap.size ≤ b3 := by have := hK1.size; omega
 have gb_hK2_b3 : w8.heap.size ≤ b3 := by have := hK2.size; omega
 have ge_b3 : w.heap.size ≤ b3 := by have := hB.size; omega
 have ne_b1_b3 : b1 ≠ b3 := by have := hb1.lt; omega
 have sb_b3_o1 := fun x hx => (show x ≠ b3 from by have := (o1.blk x hx).2; omega)
 have ne_b2_b3 : b2 ≠ b3 := by have := hb3.lt; omega
 have sb_b3_o2 := fun x hx => (show x ≠ b3 from by have := (o2.blk x hx).2; omega)
 have sb_b3_o3 := fun x hx => (show x ≠ b3 from by have := (o3.blk x hx).2; omega)
 replace hb1 := hb1.keep0 k9
 replace o1 := o1.keep0 k9
 replace hb3 := hb3.keep0 k9
 replace o2 := o2.keep0 k9
 replace o3 := o3.keep0 k9
 replace hB := hB.trans k9
 replace hK1 := hK1.trans k9
 replace hK2 := hK2.trans k9
 clear eb3 z4
 refine ow_d0 (d_sta ty29 rfl rfl rfl (by simp only [List.forall_mem_cons]; exact ⟨(RdT.keep0 Q1 hK2).one, (Rd.keep0 U2 hK2).one, fun v hv => by cases hv⟩) hb4 rfl) ?_
 rintro _ w10 ⟨hb5, k10, z5⟩
 replace hb1 := hb1.keep k10 (fun hm => absurd (List.mem_singleton.1 hm) ne_b1_b3)
 replace o1 := o1.keep k10 (fun x hx hm => sb_b3_o1 x hx (List.mem_singleton.1 hm))
 replace hb3 := hb3.keep k10 (fun hm => absurd (List.mem_singleton.1 hm) ne_b2_b3)
 replace o2 := o2.keep k10 (fun x hx hm => sb_b3_o2 x hx (List.mem_singleton.1 hm))
 replace o3 := o3.keep k10 (fun x hx hm => sb_b3_o3 x hx (List.mem_singleton.1 hm))
 replace hB := hB.new k10 (fun x hx => .inl ((List.mem_singleton.1 hx) ▸ ge_b3))
 replace hK1 := hK1.new k10 (fun x hx => .inl ((List.mem_singleton.1 hx) ▸ gb_hK1_b3))
 replace hK2 := hK2.new k10 (fun x hx => .inl ((List.mem_singleton.1 hx) ▸ gb_hK2_b3))
 clear z5
 replace hb5 : Bk w10 b3 _ [q2, u4] := hb5
 refine ow_g (g_as rfl) rfl (ow_nil (tw_keep [(1, _), (2, _), (5, _), (6, _), (7, _), (8, _), (9, _), (10, _), (11, _), (12, _)] ⟨rfl, rfl, rfl, rfl, rfl, rfl, rfl, rfl, rfl, rfl, trivial⟩ ?_))
 refine tw_seq (tw_region (ow_g (g_mv rfl) rfl (ow_d (d_call (vs := [_]) rfl (rgetw_any _ c _ (by first | assumption | exact Own.rd ‹_› | exact Rd.keep0 ‹_› hB | exact Own.rd (Own.keep0 ‹_› hB)) hc)) rfl ?_)))
 rintro _ w11 ⟨q3, u5, rfl, Q2, U3, k11⟩
 replace hb1 := hb1.keep0 k11
 replace o1 := o1.keep0 k11
 replace hb3 := hb3.keep0 k11
 replace o2 := o2.keep0 k11
 replace o3 := o3.keep0 k11
 replace hb5 := hb5.keep0 k11
 replace hB := hB.trans k11
 replace hK1 := hK1.trans k11
 replace hK2 := hK2.trans k11
 have hK3 : Keep [] w11 w11 := Keep.refl _ _
 refine ow_g (g_mv rfl) rfl (ow_g (g_ext (vs := [_, _]) rfl rfl) rfl ?_)
 refine ow_g (g_ext (vs := [_, _]) rfl rfl) rfl ?_
 refine ow_d (d_alloc ty25) rfl ?_
 rintro _ w12 ⟨b4, rfl, eb4, hb6, k12, z6⟩
 have gb_hK1_b4 : w3.heap.size ≤ b4 := by have := hK1.size; omega
 have gb_hK2_b4 : w8.heap.size ≤ b4 := by have := hK2.size; omega
 have gb_hK3_b4 : w11.heap.size ≤ b4 := by have := hK3.size; omega
 have ge_b4 : w.heap.size ≤ b4 := by have := hB.size; omega
 have ne_b1_b4 : b1 ≠ b4 := by have := hb1.lt; omega
 have sb_b4_o1 := fun x hx => (show x ≠ b4 from by have := (o1.blk x hx).2; omega)
 have ne_b2_b4 : b2 ≠ b4 := by have := hb3.lt; omega
 have sb_b4_o2 := fun x hx => (show x ≠ b4 from by have := (o2.blk x hx).2; omega)
 have sb_b4_o3 := fun x hx => (show x ≠ b4 from by have := (o3.blk x hx).2; omega)
 have ne_b3_b4 : b3 ≠ b4 := by have := hb5.lt; omega
 replace hb1 := hb1.keep0 k12
 replace o1 := o1.keep0 k12
 replace hb3 := hb3.keep0 k12
 replace o2 := o2.keep0 k12
 replace o3 := o3.keep0 k12
 replace hb5 := hb5.keep0 k12
 replace hB := hB.trans k12
 replace hK1 := hK1.trans k12
 replace hK2 := hK2.trans k12
 replace hK3 := hK3.trans k12
 clear eb4 z6
 refine ow_d0 (d_sta ty25 rfl rfl rfl (by simp only [List.forall_mem_cons]; exact ⟨(RdT.keep0 Q2 hK3).one, (Rd.keep0 U3 hK3).one, fun v hv => by cases hv⟩) hb6 rfl) ?_
 rintro _ w13 ⟨hb7, k13, z7⟩
 replace hb1 := hb1.keep k13 (fun hm => absurd (List.mem_singleton.1 hm) ne_b1_b4)
 replace o1 := o1.keep k13 (fun x hx hm => sb_b4_o1 x hx (List.mem_singleton.1 hm))
 replace hb3 := hb3.keep k13 (fun hm => absurd (List.mem_singleton.1 hm) ne_b2_b4)
 replace o2 := o2.keep k13 (fun x hx hm => sb_b4_o2 x hx (List.mem_singleton.1 hm))
 replace o3 := o3.keep k13 (fun x hx hm => sb_b4_o3 x hx (List.mem_singleton.1 hm))
 replace hb5 := hb5.keep k13 (fun hm => absurd (List.mem_singleton.1 hm) ne_b3_b4)
 replace hB := hB.new k13 (fun x hx => .inl ((List.mem_singleton.1 hx) ▸ ge_b4))
 replace hK1 := hK1.new k13 (fun x hx => .inl ((List.mem_singleton.1 hx) ▸ gb_hK1_b4))
 replace hK2 := hK2.new k13 (fun x hx => .inl ((List.mem_singleton.1 hx) ▸ gb_hK2_b4))
 replace hK3 := hK3.new k13 (fun x hx => .inl ((List.mem_singleton.1 hx) ▸ gb_hK3_b4))
 clear z7
 replace hb7 : Bk w13 b4 _ [q3, u5] := hb7
 refine ow_g (g_as rfl) rfl (ow_nil (tw_seq (tw_seq (tw_region (ow_g (g_mv rfl) rfl (ow_g (g_str Try.underlying23 Try.underlying5 Try.underlying9 rfl (by first | assumption | exact Own.rd ‹_› | exact Rd.keep0 ‹_› hB | exact Own.rd (Own.keep0 ‹_› hB))) rfl ?_))))))
 refine ow_g (g_mv rfl) rfl (ow_g (g_str Try.underlying23 Try.underlying5 Try.underlying9 rfl (by first | assumption | exact Own.rd ‹_› | exact Rd.keep0 ‹_› hB | exact Own.rd (Own.keep0 ‹_› hB))) rfl ?_)
 refine ow_g (g_nes rfl rfl) rfl ?_
 refine ow_g (g_mv rfl) rfl (ow_gy (grdT rfl rfl rfl (decide_eq_false (fun h => h rfl))) (g_mv rfl) rfl ?_)
 refine ow_dy (grdT rfl rfl rfl (decide_eq_false (fun h => h rfl))) (d_call (vs := [_]) rfl (wnum_k _ _)) rfl ?_
 rintro _ w14 ⟨rfl, k14⟩
 replace hb1 := hb1.keep0 k14
 replace o1 := o1.keep0 k14
 replace hb3 := hb3.keep0 k14
 replace o2 := o2.keep0 k14
 replace o3 := o3.keep0 k14
 replace hb5 := hb5.keep0 k14
 replace hb7 := hb7.keep0 k14
 replace hB := hB.trans k14
 replace hK1 := hK1.trans k14
 replace hK2 := hK2.trans k14
 replace hK3 := hK3.trans k14
 refine ow_gy (grdT rfl rfl rfl (decide_eq_false (fun h => h rfl))) (g_mv rfl) rfl ?_
 refine ow_gy (grdT rfl rfl rfl (decide_eq_false (fun h => h rfl))) (g_ne rfl rfl) rfl ?_
 refine ow_g (g_pickF rfl (decide_eq_false (fun h => h rfl)) rfl) rfl ?_
 refine ow_g (g_mv rfl) rfl (ow_gy (grdT rfl rfl rfl (decide_eq_false (fun h => h rfl))) (g_ldab (cs' := [_, _]) ag29 ty29 rfl hb5 rfl rfl) rfl ?_)
 refine ow_gy (grdT rfl rfl rfl (decide_eq_false (fun h => h rfl))) (g_ldab (cs' := [_, _]) ag25 ty25 rfl hb7 rfl rfl) rfl ?_
 refine ow_dy (grdT rfl rfl rfl (decide_eq_false (fun h => h rfl))) (d_call (vs := [_, _]) rfl (same_any _ _ _ _ (getS c) (getI c) _ (RdT.keep0 Q1 hK2) (Rd.keep0 U2 hK2) (RdT.keep0 Q2 hK3) (Rd.keep0 U3 hK3))) rfl ?_
 rintro _ w15 ⟨rfl, k15⟩
 replace hb1 := hb1.keep0 k15
 replace o1 := o1.keep0 k15
 replace hb3 := hb3.keep0 k15
 replace o2 := o2.keep0 k15
 replace o3 := o3.keep0 k15
 replace hb5 := hb5.keep0 k15
 replace hb7 := hb7.keep0 k15
 replace hB := hB.trans k15
 replace hK1 := hK1.trans k15
 replace hK2 := hK2.trans k15
 replace hK3 := hK3.trans k15
 refine ow_gy (grdT rfl rfl rfl (decide_eq_false (fun h => h rfl))) (g_not rfl) rfl ?_
 refine ow_g (g_pickF rfl (decide_eq_false (fun h => h rfl)) rfl) rfl ?_
 refine ow_g (g_mv rfl) rfl (ow_gy (grdT rfl rfl rfl rfl) (g_mv rfl) rfl ?_)
 refine ow_dy (grdT rfl rfl rfl rfl) (d_call (vs := [_]) rfl (wnum_k _ _)) rfl ?_
 rintro _ w16 ⟨rfl, k16⟩
 replace hb1 := hb1.keep0 k16
 replace o1 := o1.keep0 k16
 replace hb3 := hb3.keep0 k16
 replace o2 := o2.keep0 k16
 replace o3 := o3.keep0 k16
 replace hb5 := hb5.keep0 k16
 replace hb7 := hb7.keep0 k16
 replace hB := hB.trans k16
 replace hK1 := hK1.trans k16
 replace hK2 := hK2.trans k16
 replace hK3 := hK3.trans k16
 refine ow_gy (grdT rfl rfl rfl rfl) (g_mv rfl) rfl ?_
 refine ow_gy (grdT rfl rfl rfl rfl) (g_ne rfl rfl) rfl ?_
 refine ow_g (g_pickF rfl rfl rfl) rfl ?_
 refine ow_g (g_mv rfl) rfl (ow_gy (grdT rfl rfl rfl (decide_eq_false (fun h => h rfl))) (g_ldab (cs' := [_, _]) ag29 ty29 rfl hb3 rfl rfl) rfl ?_)
 refine ow_gy (grdT rfl rfl rfl (decide_eq_false (fun h => h rfl))) (g_ldab (cs' := [_, _]) ag25 ty25 rfl hb1 rfl rfl) rfl ?_
 refine ow_dy (grdT rfl rfl rfl (decide_eq_false (fun h => h rfl))) (d_call (vs := [_, _]) rfl (same_any _ _ _ _ ss info _ (RdT.keep0 P1.rdT hK1) (Rd.keep0 U1.rd hK1) (RdT.keep0 hs hB) (Rd.keep0 hi hB))) rfl ?_
 rintro _ w17 ⟨rfl, k17⟩
 replace hb1 := hb1.keep0 k17
 replace o1 := o1.keep0 k17
 replace hb3 := hb3.keep0 k17
 replace o2 := o2.keep0 k17
 replace o3 := o3.keep0 k17
 replace hb5 := hb5.keep0 k17
 replace hb7 := hb7.keep0 k17
 replace hB := hB.trans k17
 replace hK1 := hK1.trans k17
 replace hK2 := hK2.trans k17
 replace hK3 := hK3.trans k17
 refine ow_gy (grdT rfl rfl rfl (decide_eq_false (fun h => h rfl))) (g_not rfl) rfl ?_
 refine ow_g (g_pickF rfl (decide_eq_false (fun h => h rfl)) rfl) rfl ?_
 refine ow_g (g_mv rfl) rfl (ow_gy (grdT rfl rfl rfl rfl) (g_mv rfl) rfl ?_)
 refine ow_gy (grdT rfl rfl rfl rfl) (g_mv rfl) rfl ?_
 refine ow_dy (grdT rfl rfl rfl rfl) (d_call (vs := [_, _]) rfl (stays_any _ _ c _ _ o1 (by first | assumption | exact Own.rd ‹_› | exact Rd.keep0 ‹_› hB | exact Own.rd (Own.keep0 ‹_› hB)) hc)) rfl ?_
 rintro _ w18 ⟨rfl, k18⟩
 replace hb1 := hb1.keep0 k18
 replace o1 := o1.keep0 k18
 replace hb3 := hb3.keep0 k18
 replace o2 := o2.keep0 k18
 replace o3 := o3.keep0 k18
 replace hb5 := hb5.keep0 k18
 replace hb7 := hb7.keep0 k18
 replace hB := hB.trans k18
 replace hK1 := hK1.trans k18
 replace hK2 := hK2.trans k18
 replace hK3 := hK3.trans k18
 refine ow_gy (grdT rfl rfl rfl rfl) (g_not rfl) rfl ?_
 refine ow_g (g_pickF rfl rfl rfl) rfl ?_
 refine ow_nil (tw_keep [(1, _), (11, _), (12, _), (75, _)] ⟨rfl, rfl, rfl, rfl, trivial⟩ ?_)
 refine tw_condF rfl (rfl) ?_
 refine tw_skip (tw_seq (tw_seq (tw_region (ow_g (g_mv rfl) rfl (ow_d (d_call (vs := [_]) rfl (wnum_k _ _)) rfl ?_)))))
 rintro _ w19 ⟨rfl, k19⟩
 replace hb1 := hb1.keep0 k19
 replace o1 := o1.keep0 k19
 replace hb3 := hb3.keep0 k19
 replace o2 := o2.keep0 k19
 replace o3 := o3.keep0 k19
 replace hb5 := hb5.keep0 k19
 replace hb7 := hb7.keep0 k19
 replace hB := hB.trans k19
 replace hK1 := hK1.trans k19
 replace hK2 := hK2.trans k19
 replace hK3 := hK3.trans k19
 refine ow_g (g_eq rfl rfl) rfl ?_
 refine ow_nil (tw_if rfl (fun hc1 => ?_) (fun hc1 => ?_))
 ·
  refine tw_seq (tw_region ?_)
  have hgp := get_put (c := c) ‹_›
  refine ow_g (g_ldab (cs' := [_, _]) ag29 ty29 rfl hb5 rfl rfl) rfl ?_
  refine ow_d (d_call (vs := [_]) rfl (gput_any _ _ _ _ _ (RdT.keep0 Q1 hK2) (Rd.keep0 U2 hK2) (getS_small c))) rfl ?_
  rintro _ w20 ⟨u6, rfl, o4, k20⟩
  have gl_o4 := hB.size
  have sb_b3_o4 := fun x hx => (show x ≠ b3 from by have h1 := (o4.blk x hx).1; have h2 := hb5.lt; omega)
  replace o1 := o1.keep0 k20
  replace o2 := o2.keep0 k20
  replace o3 := o3.keep0 k20
  replace hb5 := hb5.keep0 k20
  replace hB := hB.trans k20
  have u_o4 := o4.blk
  replace hK1 := hK1.trans k20
  replace hK2 := hK2.trans k20
  replace hK3 := hK3.trans k20
  refine ow_g (g_mv rfl) rfl (ow_g (g_ext (vs := [_, _]) rfl rfl) rfl ?_)
  refine ow_g (g_ext (vs := [_, _]) rfl rfl) rfl ?_
  refine ow_g (g_as rfl) rfl (ow_g (g_as rfl) rfl (ow_nil (tw_keep [(1, _), (15, _), (16, _)] ⟨rfl, rfl, rfl, trivial⟩ ?_)))
  refine tw_seq (tw_region (ow_g (g_mv rfl) rfl (ow_d (d_call (vs := [_]) rfl (wnum_k _ _)) rfl ?_)))
  rintro _ w21 ⟨rfl, k21⟩
  replace o1 := o1.keep0 k21
  replace o2 := o2.keep0 k21
  replace o3 := o3.keep0 k21
  replace o4 := o4.keep0 k21
  replace hB := hB.trans k21
  replace hK1 := hK1.trans k21
  replace hK2 := hK2.trans k21
  replace hK3 := hK3.trans k21
  refine ow_g (g_eq rfl rfl) rfl ?_
  refine ow_g (g_mv rfl) rfl (ow_gy (grdT rfl rfl rfl (decide_eq_true hgp.1)) (g_mv rfl) rfl ?_)
  refine ow_gy (grdT rfl rfl rfl (decide_eq_true hgp.1)) (g_str Try.underlying23 Try.underlying5 Try.underlying9 rfl (by first | assumption | exact Own.rd ‹_› | exact Rd.keep0 ‹_› hB | exact Own.rd (Own.keep0 ‹_› hB))) rfl ?_
  refine ow_gy (grdT rfl rfl rfl (decide_eq_true hgp.1)) (g_mv rfl) rfl ?_
  refine ow_gy (grdT rfl rfl rfl (decide_eq_true hgp.1)) (g_str Try.underlying23 Try.underlying5 Try.underlying9 rfl (by first | assumption | exact Own.rd ‹_› | exact Rd.keep0 ‹_› hB | exact Own.rd (Own.keep0 ‹_› hB))) rfl ?_
  refine ow_gy (grdT rfl rfl rfl (decide_eq_true hgp.1)) (g_eqs rfl rfl) rfl ?_
  refine ow_g (g_pickT rfl (decide_eq_true hgp.1) rfl) rfl ?_
  refine ow_g (g_mv rfl) rfl (ow_dy (grdT rfl rfl rfl (decide_eq_true hgp.2)) (d_call (vs := []) rfl (wknows_any _)) rfl ?_)
  rintro _ w22 ⟨rfl, k22⟩
  replace o1 := o1.keep0 k22
  replace o2 := o2.keep0 k22
  replace o3 := o3.keep0 k22
  replace o4 := o4.keep0 k22
  replace hB := hB.trans k22
  replace hK1 := hK1.trans k22
  replace hK2 := hK2.trans k22
  replace hK3 := hK3.trans k22
  refine ow_g (g_pickT rfl (decide_eq_true hgp.2) rfl) rfl ?_
  refine ow_g (g_as rfl) rfl (ow_nil (tw_keep [(4, _)] ⟨rfl, trivial⟩ ?_))
  refine tw_ret1 hfin Try.results3 rfl ?_
  exact ⟨rfl, hB⟩
 ·
  refine tw_skip (tw_seq (tw_region (ow_d (d_call (vs := []) rfl (wknows_any _)) rfl ?_)))
  rintro _ w23 ⟨rfl, k23⟩
  replace o1 := o1.keep0 k23
  replace o2 := o2.keep0 k23
  replace o3 := o3.keep0 k23
  replace hb5 := hb5.keep0 k23
  replace hB := hB.trans k23
  replace hK1 := hK1.trans k23
  replace hK2 := hK2.trans k23
  replace hK3 := hK3.trans k23
  refine ow_g (g_as rfl) rfl (ow_nil (tw_ret1 hfin Try.results3 rfl ?_))
  exact ⟨rfl, hB⟩
end Go.Proofs.Ytimeclfplaonkaa.W
namespace Go.Eng
open Go Go.Byt Go.ChangeShapes Go.WideShapes Go.ChangeAt Go.RowKit
section
variable {H : Type} {enc : TypeId × Value → H} {P : Program} {w : World} {base : Nat} {held : Bool}
theorem list3 {α : Type} {l : List α} (h : l.length = 3) : ∃ a b c, l = [a, b, c] := by
  match l, h with
  | [a, b, c], _ => exact ⟨a, b, c, rfl⟩
theorem list2 {α : Type} {l : List α} (h : l.length = 2) : ∃ a b, l = [a, b] := by
  match l, h with
  | [a, b], _ => exact ⟨a, b, rfl⟩
theorem read_tris {t e tb t8 : TypeId} {f0 f1 f2 : Field} {fuel : Nat} {cs : List Value} {y : DataW H × List MemPlace} (ht : P.underlying t = some (.slice e)) (he : P.underlying e = some (.struct #[f0, f1, f2])) (o0 : f0.offset = 0) (o1 : f1.offset = 1) (o2 : f2.offset = 2) (t0 : f0.type = tb) (t1 : f1.type = tb) (t2 : f2.type = tb)
    (htb : P.underlying tb = some (.slice t8)) (h8 : P.underlying t8 = some (.int .u8)) (hc8 : P.cellsOf t8 = 1) (hb8 : P.bytesOf t8 = 1) (hce : P.cellsOf e = 3) (hbe : P.bytesOf e = 72) (hct : P.cellsOf tb = 1)
    (h : DataW.trod enc P w base (fun _ => true) held fuel t cs = some y) (hs : Small P t y.1) : ∃ v ss, cs = [v] ∧ RdT w v ss ∧ ss.length * 72 ≤ 140737488351232 ∧ ∀ x ∈ ss, x.1.length ≤ 140737488351232 ∧ x.2.1.length ≤ 140737488351232 ∧ x.2.2.length ≤ 140737488351232 := by
  rcases Go.Deep.open_slice ht h with ⟨rfl, rfl⟩ | ⟨a, len, cap, m, n, D, Pl, rfl, hb, hl, hm, hmm, rfl, hx⟩
  · exact ⟨_, [], rfl, ⟨[], els_nil _ _, Rd.nil _ _⟩, by decide, fun x hx => by cases hx⟩
  · have hmc : m = cap := by rw [hmm]; rfl
    have each : ∀ i, i < len → ∃ q : Value × Value × Value × Tri, w.cells? base (a.add (i * 3)) 3 = some [q.1, q.2.1, q.2.2.1] ∧ RdB w q.1 q.2.2.2.1 ∧ RdB w q.2.1 q.2.2.2.2.1 ∧ RdB w q.2.2.1 q.2.2.2.2.2 ∧ q.2.2.2.1.length ≤ 140737488351232 ∧ q.2.2.2.2.1.length ≤ 140737488351232 ∧ q.2.2.2.2.2.length ≤ 140737488351232 := by
      intro i hi
      obtain ⟨cs', g1, g2⟩ := hx i (by omega)
      rw [hce] at g1
      have se : Small P e (D i) := small_elem ht hs (i := i) (by simp [List.getElem?_range hi])
      obtain ⟨hl3, k, hf⟩ := read_struct he g2 se
      rw [hce] at hl3
      obtain ⟨c0, c1, c2, rfl⟩ := list3 hl3
      obtain ⟨z0, u0, s0⟩ := hf 0 f0 rfl
      obtain ⟨z1, u1, s1⟩ := hf 1 f1 rfl
      obtain ⟨z2, u2, s2⟩ := hf 2 f2 rfl
      rw [t0] at u0 s0
      rw [t1] at u1 s1
      rw [t2] at u2 s2
      rw [o0, hct] at u0
      rw [o1, hct] at u1
      rw [o2, hct] at u2
      obtain ⟨v0, x0, e0, r0, l0⟩ := read_bytes' htb h8 hc8 hb8 u0 s0
      obtain ⟨v1, x1, e1, r1, l1⟩ := read_bytes' htb h8 hc8 hb8 u1 s1
      obtain ⟨v2, x2, e2, r2, l2⟩ := read_bytes' htb h8 hc8 hb8 u2 s2
      simp at e0 e1 e2
      subst e0 e1 e2
      exact ⟨(c0, c1, c2, x0, x1, x2), g1, r0, r1, r2, l0, l1, l2⟩
    obtain ⟨q, hq⟩ := Go.Deep.choose_lt each
    have hlen := small_len ht hs
    rw [hbe] at hlen
    have hr : reachBytes ≤ 140737488351232 := by decide
    simp only [List.length_map, List.length_range] at hlen
    refine ⟨_, (List.range len).map fun i => (q i).2.2.2, rfl, ⟨(List.range len).map fun i => [(q i).1, (q i).2.1, (q i).2.2.1], ⟨by simp, ?_, ?_⟩, ?_⟩, by simp only [List.length_map, List.length_range]; omega, ?_⟩
    · intro c hc
      simp only [List.mem_map] at hc
      obtain ⟨i, _, rfl⟩ := hc; rfl
    · intro i cs x hc hx
      simp only [List.getElem?_map] at hc hx
      by_cases hi : i < len
      · rw [List.getElem?_range hi] at hc hx
        simp at hc hx
        subst hc hx
        obtain ⟨_, h1, h2, h3, _⟩ := hq i hi
        exact ⟨_, _, _, rfl, h1, h2, h3⟩
      · rw [List.getElem?_eq_none (by simp; omega)] at hc; simp at hc
    · have hall : ∀ c ∈ (List.range len).map (fun i => [(q i).1, (q i).2.1, (q i).2.2.1]), c.length = 3 := by
        intro c hc
        simp only [List.mem_map] at hc
        obtain ⟨i, _, rfl⟩ := hc; rfl
      have hfl := flat_length' hall
      rw [List.length_map, List.length_range] at hfl
      refine ⟨some a, cap, by simp, by simpa using hl, hm, by rw [hfl]; simp, (fun h => by cases h), ?_⟩
      intro a' ha
      cases ha
      intro j u hj
      have hjl : j < len * 3 := by
        rw [← hfl]
        exact (List.getElem?_eq_some_iff.1 hj).1
      have hi : j / 3 < len := by omega
      have hd := flat_drop (s := 3) (i := j / 3) (cs := [(q (j / 3)).1, (q (j / 3)).2.1, (q (j / 3)).2.2.1]) hall (by rw [List.getElem?_map, List.getElem?_range hi]; rfl)
      obtain ⟨d0, d1, d2⟩ := tri_cell hd
      obtain ⟨hcs, _⟩ := hq (j / 3) hi
      obtain ⟨_, _, hcell⟩ := World.cells?_some hcs
      have e0 := hcell 0 (by decide)
      have e1 := hcell 1 (by decide)
      have e2 := hcell 2 (by decide)
      rw [addr_add] at e0 e1 e2
      have hm3 : j % 3 = 0 ∨ j % 3 = 1 ∨ j % 3 = 2 := by omega
      rcases hm3 with hk | hk | hk
      · have ej : j = j / 3 * 3 + 0 := by omega
        rw [ej] at hj ⊢
        rw [show j / 3 * 3 + 0 = j / 3 * 3 from rfl, d0] at hj
        rw [← hj]; simpa using e0
      · have ej : j = j / 3 * 3 + 1 := by omega
        rw [ej] at hj ⊢
        have hdiv : (j / 3 * 3 + 1) / 3 = j / 3 := by omega
        rw [d1] at hj
        rw [← hj]; simpa using e1
      · have ej : j = j / 3 * 3 + 2 := by omega
        rw [ej] at hj ⊢
        rw [d2] at hj
        rw [← hj]; simpa using e2
    · intro x hx
      simp only [List.mem_map, List.mem_range] at hx
      obtain ⟨i, hi, rfl⟩ := hx
      obtain ⟨_, _, _, _, h1, h2, h3⟩ := hq i hi
      exact ⟨h1, h2, h3⟩
end
end Go.Eng
