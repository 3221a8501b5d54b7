/- Contracts and laws, part 5 of 6: what each function of the program and of the reference computes, shown once. -/
import Derived.Test.YtkngeapegpehpaaQbd
namespace Go.Proofs.Ytkngeapegpehpaa.W
open Go Go.Eng Go.Byt
set_option linter.unusedVariables false
set_option linter.unusedSimpArgs false
open Go.Fld Go.Ed
def pbit (low width i : Int) : Bool := decide (width ≤ i) || decide (bits .and .i64 (low.fdiv (2 ^ min (IntKind.u64.wrap i).toNat IntKind.i64.bits)) 1 = 1)
def pe (low width bts : Int) : Nat → Nat
  | 0 => 0
  | j + 1 => 2 * pe low width bts j + bif pbit low width (bts - 1 - (j : Int)) then 1 else 0
theorem wrap_nn (x : Int) : 0 ≤ IntKind.u64.wrap x := by rw [wrap_uns (k := .u64) rfl]; exact Int.emod_nonneg _ (by decide)
theorem pe_start (a : Fp) (low width bts : Int) : fpow a (pe low width bts (bts - 1 - (bts - 1)).toNat) = fp 1 := by rw [Int.sub_self]; exact fp_one.symm
theorem pe_at {low width bts i : Int} (h0 : 0 ≤ i) (h1 : i ≤ bts - 1) : pe low width bts (bts - 1 - (i - 1)).toNat = 2 * pe low width bts (bts - 1 - i).toNat + bif pbit low width i then 1 else 0 := by
  rw [show (bts - 1 - (i - 1)).toNat = (bts - 1 - i).toNat + 1 by omega, pe, show bts - 1 - (((bts - 1 - i).toNat : Nat) : Int) = i by omega]
theorem pe_F {a : Fp} {low width bts i : Int} (h0 : 0 ≤ i) (h1 : i ≤ bts - 1) (hb : pbit low width i = false) : fpow a (pe low width bts (bts - 1 - i).toNat) * fpow a (pe low width bts (bts - 1 - i).toNat) = fpow a (pe low width bts (bts - 1 - (i - 1)).toNat) := by
  rw [pe_at h0 h1, hb, cond_false, Nat.add_zero, Nat.two_mul, fpow_add]
theorem pe_T {a : Fp} {low width bts i : Int} (h0 : 0 ≤ i) (h1 : i ≤ bts - 1) (hb : pbit low width i = true) : fpow a (pe low width bts (bts - 1 - i).toNat) * fpow a (pe low width bts (bts - 1 - i).toNat) * a = fpow a (pe low width bts (bts - 1 - (i - 1)).toNat) := by
  rw [pe_at h0 h1, hb, cond_true, Nat.two_mul, fpow_add, fpow_add, one_fpow]
theorem pe_end {a : Fp} {low width bts i : Int} (h : -1 ≤ i) (h0 : ¬ 0 ≤ i) : fpow a (pe low width bts (bts - 1 - i).toNat) = fpow a (pe low width bts bts.toNat) := by
  rw [show bts - 1 - i = bts by omega]
theorem pe_inv : pe 11 5 255 (255 : Int).toNat = P - 2 := by decide +kernel
theorem pe_root : pe 14 4 252 (252 : Int).toNat = 7237005577332262213973186563042994240829374041602535252466099000494570602494 := by decide +kernel
theorem pe_m1 : pe 3 3 253 (253 : Int).toNat = 14474011154664524427946373126085988481658748083205070504932198000989141204987 := by decide +kernel
theorem fp_two : fp 2 = 2 := by decide
set_option maxRecDepth 100000 in
set_option maxHeartbeats 1000000 in
theorem rsame_any (f g : Nat → Int) (a b : Fp) (hf : RN f a) (hg : RN g b) (w : World) : Rets Try.prog 52 [.agg (iv .i64 16 f).toArray, .agg (iv .i64 16 g).toArray] w (fun v w' => v = .bool (decide (a = b)) ∧ Keep [] w w') := by
 have hB : Keep [] w w := Keep.refl _ _
 refine rets_of_tw Try.func52 rfl (by decide) Try.ntmps52 rfl (fun fin _ hfin => ?_)
 refine tw_seq (tw_region (ow_d (d_box (cs := iv .i64 16 f) rfl rfl) rfl ?_))
 rintro _ w1 ⟨b1, rfl, eb1, hb1, k1, z1⟩
 have ge_b1 : w.heap.size ≤ b1 := by have := hB.size; omega
 replace hB := hB.trans k1
 clear eb1 z1
 refine ow_d (d_box (cs := iv .i64 16 g) rfl rfl) rfl ?_
 rintro _ w2 ⟨b2, rfl, eb2, hb2, k2, z2⟩
 have ge_b2 : w.heap.size ≤ b2 := by have := hB.size; omega
 have ne_b1_b2 : b1 ≠ b2 := by have := hb1.lt; omega
 replace hb1 := hb1.keep0 k2
 replace hB := hB.trans k2
 clear eb2 z2
 refine ow_g (g_as rfl) rfl (ow_nil (tw_seq (tw_plan 7 [0, 3, 1, 2, 4, 5, 6] [1, 4] [] mixed [(2, _), (3, _), (4, _)] ⟨rfl, rfl, rfl, trivial⟩ (by decide +kernel) rfl (fun w3 k3 => ?_))))
 replace hb1 := hb1.keep0 k3
 replace hb2 := hb2.keep0 k3
 replace hB := hB.trans k3
 refine pw_g [(2, _)] rfl rfl ⟨rfl, trivial⟩ rfl (fun W' kk => g_ldab (cs' := iv .i64 16 f) ag36 ty36 rfl (Bk.keep0 hb1 kk) rfl rfl) ?_
 refine pw_g [(3, _)] rfl rfl ⟨rfl, trivial⟩ rfl (fun W' kk => g_ldab (cs' := iv .i64 16 g) ag36 ty36 rfl (Bk.keep0 hb2 kk) rfl rfl) ?_
 refine pw_d [(5, _)] rfl rfl ⟨rfl, trivial⟩ rfl (d_call (vs := [_]) rfl (rbytes_any _ _ hf _)) ?_
 rintro v1 w4 ⟨o1, k4⟩
 refine ⟨k4, ?_⟩
 have gl_o1 := hB.size
 have sb_b1_o1 := fun x hx => (show x ≠ b1 from by have h1 := (o1.blk x hx).1; have h2 := hb1.lt; omega)
 have sb_b2_o1 := fun x hx => (show x ≠ b2 from by have h1 := (o1.blk x hx).1; have h2 := hb2.lt; omega)
 replace hb1 := hb1.keep0 k4
 replace hb2 := hb2.keep0 k4
 replace hB := hB.trans k4
 have u_o1 := o1.blk
 refine pw_g [(6, _)] rfl rfl ⟨rfl, trivial⟩ rfl (fun W' kk => g_str Try.underlying22 Try.underlying5 Try.underlying9 rfl (by first | exact Rd.keep0 ‹_› kk | exact Rd.keep0 (Own.rd ‹_›) kk | exact Rd.keep0 (Rd.keep0 ‹_› hB) kk | exact Rd.keep0 (Own.rd (Own.keep0 ‹_› hB)) kk)) ?_
 refine pw_d [(8, _)] rfl rfl ⟨rfl, trivial⟩ rfl (d_call (vs := [_]) rfl (rbytes_any _ _ hg _)) ?_
 rintro v2 w5 ⟨o2, k5⟩
 refine ⟨k5, ?_⟩
 have gl_o2 := hB.size
 have sb_b1_o2 := fun x hx => (show x ≠ b1 from by have h1 := (o2.blk x hx).1; have h2 := hb1.lt; omega)
 have sb_b2_o2 := fun x hx => (show x ≠ b2 from by have h1 := (o2.blk x hx).1; have h2 := hb2.lt; omega)
 replace hb1 := hb1.keep0 k5
 replace hb2 := hb2.keep0 k5
 replace o1 := o1.keep0 k5
 replace hB := hB.trans k5
 have u_o2 := o2.blk
 refine pw_g [(9, _)] rfl rfl ⟨rfl, trivial⟩ rfl (fun W' kk => g_str Try.underlying22 Try.underlying5 Try.underlying9 rfl (by first | exact Rd.keep0 ‹_› kk | exact Rd.keep0 (Own.rd ‹_›) kk | exact Rd.keep0 (Rd.keep0 ‹_› hB) kk | exact Rd.keep0 (Own.rd (Own.keep0 ‹_› hB)) kk)) ?_
 refine pw_g [(7, _), (10, _)] rfl rfl ⟨rfl, rfl, trivial⟩ rfl (fun W' kk => g_eqs rfl rfl) ?_
 refine pw_nil ?_
 refine ow_g (g_as rfl) rfl (ow_nil (tw_ret1 hfin Try.results52 rfl ?_))
 exact ⟨by rw [fpB_dec], hB⟩
set_option maxRecDepth 100000 in
set_option maxHeartbeats 1000000 in
theorem rpower_any (f : Nat → Int) (a : Fp) (bts low width : Int) (hf : RN f a) (hb : 0 ≤ bts ∧ bts ≤ 1000) (w : World) : Rets Try.prog 75 [.agg (iv .i64 16 f).toArray, .int .i64 bts, .int .i64 low, .int .i64 width] w (fun v w' => ∃ r, v = .agg (iv .i64 16 r).toArray ∧ RN r (fpow a (pe low width bts bts.toNat)) ∧ Keep [] w w') := by
 have hB : Keep [] w w := Keep.refl _ _
 refine rets_of_tw Try.func75 rfl (by decide) Try.ntmps75 rfl (fun fin _ hfin => ?_)
 refine tw_seq (tw_region (ow_d (d_box (cs := iv .i64 16 f) rfl rfl) rfl ?_))
 rintro _ w1 ⟨b1, rfl, eb1, hb1, k1, z1⟩
 have ge_b1 : w.heap.size ≤ b1 := by have := hB.size; omega
 replace hB := hB.trans k1
 clear eb1 z1
 refine ow_d (d_alloc ty36) rfl ?_
 rintro _ w2 ⟨b2, rfl, eb2, hb2, k2, z2⟩
 have ge_b2 : w.heap.size ≤ b2 := by have := hB.size; omega
 have ne_b1_b2 : b1 ≠ b2 := by have := hb1.lt; omega
 replace hb1 := hb1.keep0 k2
 replace hB := hB.trans k2
 clear eb2 z2
 replace hb2 : Bk w2 b2 36 (iv .i64 16 (fun _ => 0)) := by rw [iv, ivF_rep]; exact hb2
 refine ow_nil (tw_seq (tw_region (ow_d (d_call (vs := [_]) rfl (rsmall_any 1 (by decide) _)) rfl ?_)))
 rintro _ w3 ⟨hh1, rfl, E1, C1, k3⟩
 replace hb1 := hb1.keep0 k3
 replace hb2 := hb2.keep0 k3
 replace hB := hB.trans k3
 refine ow_d (d_alloc ty36) rfl ?_
 rintro _ w4 ⟨b3, rfl, eb3, hb3, k4, z3⟩
 have ge_b3 : w.heap.size ≤ b3 := by have := hB.size; omega
 have ne_b1_b3 : b1 ≠ b3 := by have := hb1.lt; omega
 have ne_b2_b3 : b2 ≠ b3 := by have := hb2.lt; omega
 replace hb1 := hb1.keep0 k4
 replace hb2 := hb2.keep0 k4
 replace hB := hB.trans k4
 clear eb3 z3
 replace hb3 : Bk w4 b3 36 (iv .i64 16 (fun _ => 0)) := by rw [iv, ivF_rep]; exact hb3
 refine ow_d0 (d_stw (vs := iv .i64 16 hh1) ty36 rfl rfl rfl ivF_one hb3 rfl) ?_
 rintro _ w5 ⟨hb4, k5, z4⟩
 replace hb1 := hb1.keep k5 (fun hm => absurd (List.mem_singleton.1 hm) ne_b1_b3)
 replace hb2 := hb2.keep k5 (fun hm => absurd (List.mem_singleton.1 hm) ne_b2_b3)
 replace hB := hB.new k5 (fun x hx => .inl ((List.mem_singleton.1 hx) ▸ ge_b3))
 clear z4
 refine ow_nil (tw_seq (tw_seq (tw_region (ow_g (g_mv rfl) rfl (ow_g (g_sub rfl rfl (by omega)) rfl ?_)))))
 refine ow_g (g_as rfl) rfl (ow_nil (tw_block (tw_loop (Γ := Int × (Nat → Int)) (fun ⟨i, n⟩ => [(4, .pointer (some ⟨b1, 0, none⟩)), (8, .pointer (some ⟨b2, 0, none⟩)), (9, .pointer (some ⟨b3, 0, none⟩)), (2, .int .i64 low), (3, .int .i64 width), (10, .int .i64 i)]) (fun ⟨i, n⟩ W => -1 ≤ i ∧ i ≤ bts - 1 ∧ RN n (fpow a (pe low width bts (bts - 1 - i).toNat)) ∧ Bk W b1 36 (iv .i64 16 f) ∧ Bk W b2 36 (iv .i64 16 (fun _ => 0)) ∧ Bk W b3 36 (iv .i64 16 n) ∧ Keep [] w W) (fun ⟨i, n⟩ => (i + 1).toNat) ⟨bts - 1, hh1⟩ ⟨rfl, rfl, rfl, rfl, rfl, rfl, trivial⟩ (⟨by omega, by omega, (by rw [pe_start]; exact E1), hb1, hb2, hb4, hB⟩) ?_)))
 rintro ⟨i, n⟩ w6 ⟨hi0, hi1, hN, hbx4, hbx8, hbx9, hB⟩
 refine tw_keep [(4, .pointer (some ⟨b1, 0, none⟩)), (8, .pointer (some ⟨b2, 0, none⟩)), (9, .pointer (some ⟨b3, 0, none⟩)), (2, .int .i64 low), (3, .int .i64 width), (10, .int .i64 i)] ⟨rfl, rfl, rfl, rfl, rfl, rfl, trivial⟩ ?_
 refine tw_seq (tw_seq (tw_region (ow_g (g_mv rfl) rfl (ow_g (g_ge rfl rfl) rfl ?_))))
 refine ow_nil (tw_if rfl (fun hc1 => ?_) (fun hc1 => ?_))
 ·
  refine tw_skip (tw_seq (tw_block (tw_seq (tw_region (ow_g (g_ldab (cs' := iv .i64 16 n) ag36 ty36 rfl hbx9 rfl rfl) rfl ?_)))))
  refine ow_g (g_ldab (cs' := iv .i64 16 n) ag36 ty36 rfl hbx9 rfl rfl) rfl ?_
  refine ow_d (d_call (vs := [_, _]) rfl (rtimes_any _ _ _ _ hN hN _)) rfl ?_
  rintro _ w7 ⟨hh2, rfl, E2, k6⟩
  replace hbx4 := hbx4.keep0 k6
  replace hbx8 := hbx8.keep0 k6
  replace hbx9 := hbx9.keep0 k6
  replace hB := hB.trans k6
  refine ow_d0 (d_stw (vs := iv .i64 16 hh2) ty36 rfl rfl rfl ivF_one hbx9 rfl) ?_
  rintro _ w8 ⟨hb5, k7, z5⟩
  replace hbx4 := hbx4.keep k7 (fun hm => absurd (List.mem_singleton.1 hm) ne_b1_b3)
  replace hbx8 := hbx8.keep k7 (fun hm => absurd (List.mem_singleton.1 hm) ne_b2_b3)
  replace hB := hB.new k7 (fun x hx => .inl ((List.mem_singleton.1 hx) ▸ ge_b3))
  clear z5
  refine ow_nil (tw_seq (tw_region (ow_g (g_mv rfl) rfl (ow_g (g_mv rfl) rfl (ow_g (g_ge rfl rfl) rfl ?_)))))
  refine ow_g (g_mv rfl) rfl (ow_grp 24 false rfl (fun c1 hgc1 => ?_))
  refine ow_gg [(2, _)] (grd1 rfl rfl rfl hgc1) ⟨und0 rfl, trivial⟩ (fun hw1 => g_mv rfl) rfl ?_
  refine ow_gg [(10, _)] (grd1 rfl rfl rfl hgc1) ⟨und0 rfl, trivial⟩ (fun hw2 => g_mv rfl) rfl ?_
  refine ow_gg [(26, _)] (grd1 rfl rfl rfl hgc1) ⟨und1 rfl, trivial⟩ (fun hw3 => g_cv (by rw [Try.underlying3]; rfl) Try.underlying53 rfl) rfl ?_
  refine ow_gg [(25, _), (27, _)] (grd1 rfl rfl rfl hgc1) ⟨und1 rfl, und1 rfl, trivial⟩ (fun hw4 => g_shra rfl rfl (wrap_nn _)) rfl ?_
  refine ow_gg [(28, _)] (grd1 rfl rfl rfl hgc1) ⟨und1 rfl, trivial⟩ (fun hw5 => g_and rfl rfl) rfl ?_
  refine ow_gg [(29, _)] (grd1 rfl rfl rfl hgc1) ⟨und1 rfl, trivial⟩ (fun hw6 => g_eq rfl rfl) rfl ?_
  refine ow_g (g_por rfl rfl hgc1) rfl ?_
  refine ow_nil (tw_keep [(4, _), (8, _), (9, _), (2, _), (3, _), (10, _), (31, _)] ⟨rfl, rfl, rfl, rfl, rfl, rfl, rfl, trivial⟩ ?_)
  refine tw_cond rfl (fun hc2 => ?_) (fun hc2 => ?_)
  ·
   have hd1 := hc2
   try (simp only [Bool.and_eq_true, Bool.or_eq_true, decide_eq_true_eq, Bool.and_eq_false_iff, Bool.or_eq_false_iff, decide_eq_false_iff_not, Bool.not_eq_true', Bool.not_eq_false', Bool.not_eq_true, Bool.not_eq_false, ne_eq, Decidable.not_not, decide_true, decide_false, Bool.true_and, Bool.false_and, Bool.or_false, Bool.false_or, not_true_eq_false, false_or, or_false, true_and, and_true, not_false_eq_true, reduceCtorEq] at hd1)
   refine tw_region (ow_g (g_ldab (cs' := iv .i64 16 hh2) ag36 ty36 rfl hb5 rfl rfl) rfl ?_)
   refine ow_g (g_ldab (cs' := iv .i64 16 f) ag36 ty36 rfl hbx4 rfl rfl) rfl ?_
   refine ow_d (d_call (vs := [_, _]) rfl (rtimes_any _ _ _ _ E2 hf _)) rfl ?_
   rintro _ w9 ⟨hh3, rfl, E3, k8⟩
   replace hbx4 := hbx4.keep0 k8
   replace hbx8 := hbx8.keep0 k8
   replace hb5 := hb5.keep0 k8
   replace hB := hB.trans k8
   refine ow_d0 (d_stw (vs := iv .i64 16 hh3) ty36 rfl rfl rfl ivF_one hb5 rfl) ?_
   rintro _ w10 ⟨hb6, k9, z6⟩
   replace hbx4 := hbx4.keep k9 (fun hm => absurd (List.mem_singleton.1 hm) ne_b1_b3)
   replace hbx8 := hbx8.keep k9 (fun hm => absurd (List.mem_singleton.1 hm) ne_b2_b3)
   replace hB := hB.new k9 (fun x hx => .inl ((List.mem_singleton.1 hx) ▸ ge_b3))
   clear z6
   refine ow_nil (tw_b (tw_region (ow_g (g_mv rfl) rfl (ow_g (g_sub rfl rfl (by omega)) rfl ?_))))
   refine ow_g (g_as rfl) rfl (ow_nil (tw_inv (Γ := Int × (Nat → Int)) ⟨i - 1, hh3⟩ ⟨rfl, rfl, rfl, rfl, rfl, rfl, trivial⟩ (by (try dsimp only); omega) (⟨by omega, by omega, (by rw [← pe_T (by omega) hi1 hc2]; exact E3), hbx4, hbx8, hb6, hB⟩)))
  ·
   have hd2 := hc2
   try (simp only [Bool.and_eq_true, Bool.or_eq_true, decide_eq_true_eq, Bool.and_eq_false_iff, Bool.or_eq_false_iff, decide_eq_false_iff_not, Bool.not_eq_true', Bool.not_eq_false', Bool.not_eq_true, Bool.not_eq_false, ne_eq, Decidable.not_not, decide_true, decide_false, Bool.true_and, Bool.false_and, Bool.or_false, Bool.false_or, not_true_eq_false, false_or, or_false, true_and, and_true, not_false_eq_true, reduceCtorEq] at hd2)
   refine tw_skip (tw_b (tw_region (ow_g (g_mv rfl) rfl (ow_g (g_sub rfl rfl (by omega)) rfl ?_))))
   refine ow_g (g_as rfl) rfl (ow_nil (tw_inv (Γ := Int × (Nat → Int)) ⟨i - 1, hh2⟩ ⟨rfl, rfl, rfl, rfl, rfl, rfl, trivial⟩ (by (try dsimp only); omega) (⟨by omega, by omega, (by rw [← pe_F (by omega) hi1 hc2]; exact E2), hbx4, hbx8, hb5, hB⟩)))
 ·
  refine tw_exit rfl ?_
  refine tw_seq (tw_region (ow_g (g_ldab (cs' := iv .i64 16 n) ag36 ty36 rfl hbx9 rfl rfl) rfl ?_))
  refine ow_d0 (d_stw (vs := iv .i64 16 n) ty36 rfl rfl rfl ivF_one hbx8 rfl) ?_
  rintro _ w11 ⟨hb7, k10, z7⟩
  replace hbx4 := hbx4.keep k10 (fun hm => absurd (List.mem_singleton.1 hm) ne_b1_b2)
  replace hbx9 := hbx9.keep k10 (fun hm => absurd (List.mem_singleton.1 hm) (Ne.symm ne_b2_b3))
  replace hB := hB.new k10 (fun x hx => .inl ((List.mem_singleton.1 hx) ▸ ge_b2))
  clear z7
  refine ow_nil (tw_retc hfin Try.results75 rfl (run_loadAgg ag36 ty36 ‹_› rfl)  ?_)
  exact ⟨n, rfl, (by rw [← pe_end (a := a) hi0 ‹_›]; exact hN), hB⟩
set_option maxRecDepth 100000 in
set_option maxHeartbeats 1000000 in
theorem rinverse_any (f : Nat → Int) (a : Fp) (hf : RN f a) (w : World) : Rets Try.prog 56 [.agg (iv .i64 16 f).toArray] w (fun v w' => ∃ r, v = .agg (iv .i64 16 r).toArray ∧ RN r (inv a) ∧ Keep [] w w') := by
 have hB : Keep [] w w := Keep.refl _ _
 refine rets_of_tw Try.func56 rfl (by decide) Try.ntmps56 rfl (fun fin _ hfin => ?_)
 refine tw_seq (tw_region (ow_d (d_box (cs := iv .i64 16 f) rfl rfl) rfl ?_))
 rintro _ w1 ⟨b1, rfl, eb1, hb1, k1, z1⟩
 have ge_b1 : w.heap.size ≤ b1 := by have := hB.size; omega
 replace hB := hB.trans k1
 clear eb1 z1
 refine ow_d (d_alloc ty36) rfl ?_
 rintro _ w2 ⟨b2, rfl, eb2, hb2, k2, z2⟩
 have ge_b2 : w.heap.size ≤ b2 := by have := hB.size; omega
 have ne_b1_b2 : b1 ≠ b2 := by have := hb1.lt; omega
 replace hb1 := hb1.keep0 k2
 replace hB := hB.trans k2
 clear eb2 z2
 replace hb2 : Bk w2 b2 36 (iv .i64 16 (fun _ => 0)) := by rw [iv, ivF_rep]; exact hb2
 refine ow_nil (tw_seq (tw_region (ow_g (g_ldab (cs' := iv .i64 16 f) ag36 ty36 rfl hb1 rfl rfl) rfl ?_)))
 refine ow_d (d_call (vs := [_, _, _, _]) rfl (rpower_any _ _ 255 11 5 hf (by decide) _)) rfl ?_
 rintro _ w3 ⟨hh1, rfl, E1, k3⟩
 replace hb1 := hb1.keep0 k3
 replace hb2 := hb2.keep0 k3
 replace hB := hB.trans k3
 rw [pe_inv] at E1
 replace E1 : RN hh1 (inv a) := E1
 refine ow_d0 (d_stw (vs := iv .i64 16 hh1) ty36 rfl rfl rfl ivF_one hb2 rfl) ?_
 rintro _ w4 ⟨hb3, k4, z3⟩
 replace hb1 := hb1.keep k4 (fun hm => absurd (List.mem_singleton.1 hm) ne_b1_b2)
 replace hB := hB.new k4 (fun x hx => .inl ((List.mem_singleton.1 hx) ▸ ge_b2))
 clear z3
 refine ow_nil (tw_retc hfin Try.results56 rfl (run_loadAgg ag36 ty36 ‹_› rfl)  ?_)
 exact ⟨hh1, rfl, E1, hB⟩
set_option maxRecDepth 100000 in
set_option maxHeartbeats 1000000 in
theorem rminus1_any (w : World) : Rets Try.prog 86 [] w (fun v w' => ∃ r, v = .agg (iv .i64 16 r).toArray ∧ RN r (fpow 2 14474011154664524427946373126085988481658748083205070504932198000989141204987) ∧ Keep [] w w') := by
 have hB : Keep [] w w := Keep.refl _ _
 refine rets_of_tw Try.func86 rfl (by decide) Try.ntmps86 rfl (fun fin _ hfin => ?_)
 refine tw_seq (tw_region (ow_d (d_alloc ty36) rfl ?_))
 rintro _ w1 ⟨b1, rfl, eb1, hb1, k1, z1⟩
 have ge_b1 : w.heap.size ≤ b1 := by have := hB.size; omega
 replace hB := hB.trans k1
 clear eb1 z1
 replace hb1 : Bk w1 b1 36 (iv .i64 16 (fun _ => 0)) := by rw [iv, ivF_rep]; exact hb1
 refine ow_nil (tw_seq (tw_region (ow_d (d_call (vs := [_]) rfl (rsmall_any 2 (by decide) _)) rfl ?_)))
 rintro _ w2 ⟨hh1, rfl, E1, C1, k2⟩
 replace hb1 := hb1.keep0 k2
 replace hB := hB.trans k2
 replace E1 : RN hh1 2 := fp_two ▸ E1
 refine ow_d (d_call (vs := [_, _, _, _]) rfl (rpower_any _ _ 253 3 3 E1 (by decide) _)) rfl ?_
 rintro _ w3 ⟨hh2, rfl, E2, k3⟩
 replace hb1 := hb1.keep0 k3
 replace hB := hB.trans k3
 rw [pe_m1] at E2
 replace E2 : RN hh2 (fpow 2 14474011154664524427946373126085988481658748083205070504932198000989141204987) := E2
 refine ow_d0 (d_stw (vs := iv .i64 16 hh2) ty36 rfl rfl rfl ivF_one hb1 rfl) ?_
 rintro _ w4 ⟨hb2, k4, z2⟩
 replace hB := hB.new k4 (fun x hx => .inl ((List.mem_singleton.1 hx) ▸ ge_b1))
 clear z2
 refine ow_nil (tw_retc hfin Try.results86 rfl (run_loadAgg ag36 ty36 ‹_› rfl)  ?_)
 exact ⟨hh2, rfl, E2, hB⟩
set_option maxRecDepth 100000 in
set_option maxHeartbeats 1000000 in
theorem rfit_any (f g : Nat → Int) (a b : Fp) (hf : RN f a) (hg : RN g b) (w : World) : Rets Try.prog 76 [.agg (iv .i64 16 f).toArray, .agg (iv .i64 16 g).toArray] w (fun v w' => ∃ r, v = .agg (iv .i64 16 r).toArray ∧ RN r (if a * a = b then a else a * fpow 2 14474011154664524427946373126085988481658748083205070504932198000989141204987) ∧ Keep [] w w') := by
 have hB : Keep [] w w := Keep.refl _ _
 refine rets_of_tw Try.func76 rfl (by decide) Try.ntmps76 rfl (fun fin _ hfin => ?_)
 refine tw_seq (tw_region (ow_d (d_box (cs := iv .i64 16 f) rfl rfl) rfl ?_))
 rintro _ w1 ⟨b1, rfl, eb1, hb1, k1, z1⟩
 have ge_b1 : w.heap.size ≤ b1 := by have := hB.size; omega
 replace hB := hB.trans k1
 clear eb1 z1
 refine ow_d (d_box (cs := iv .i64 16 g) rfl rfl) rfl ?_
 rintro _ w2 ⟨b2, rfl, eb2, hb2, k2, z2⟩
 have ge_b2 : w.heap.size ≤ b2 := by have := hB.size; omega
 have ne_b1_b2 : b1 ≠ b2 := by have := hb1.lt; omega
 replace hb1 := hb1.keep0 k2
 replace hB := hB.trans k2
 clear eb2 z2
 refine ow_d (d_alloc ty36) rfl ?_
 rintro _ w3 ⟨b3, rfl, eb3, hb3, k3, z3⟩
 have ge_b3 : w.heap.size ≤ b3 := by have := hB.size; omega
 have ne_b1_b3 : b1 ≠ b3 := by have := hb1.lt; omega
 have ne_b2_b3 : b2 ≠ b3 := by have := hb2.lt; omega
 replace hb1 := hb1.keep0 k3
 replace hb2 := hb2.keep0 k3
 replace hB := hB.trans k3
 clear eb3 z3
 replace hb3 : Bk w3 b3 36 (iv .i64 16 (fun _ => 0)) := by rw [iv, ivF_rep]; exact hb3
 refine ow_nil (tw_seq (tw_seq (tw_plan 5 [0, 1, 3, 2, 4] [2, 4] [] mixed [(2, _), (3, _), (4, _)] ⟨rfl, rfl, rfl, trivial⟩ (by decide +kernel) rfl (fun w4 k4 => ?_))))
 replace hb1 := hb1.keep0 k4
 replace hb2 := hb2.keep0 k4
 replace hb3 := hb3.keep0 k4
 replace hB := hB.trans k4
 refine pw_g [(2, _)] rfl rfl ⟨rfl, trivial⟩ rfl (fun W' kk => g_ldab (cs' := iv .i64 16 f) ag36 ty36 rfl (Bk.keep0 hb1 kk) rfl rfl) ?_
 refine pw_g [(2, _)] rfl rfl ⟨rfl, trivial⟩ rfl (fun W' kk => g_ldab (cs' := iv .i64 16 f) ag36 ty36 rfl (Bk.keep0 hb1 kk) rfl rfl) ?_
 refine pw_g [(3, _)] rfl rfl ⟨rfl, trivial⟩ rfl (fun W' kk => g_ldab (cs' := iv .i64 16 g) ag36 ty36 rfl (Bk.keep0 hb2 kk) rfl rfl) ?_
 refine pw_d [(5, _), (6, _)] rfl rfl ⟨rfl, rfl, trivial⟩ rfl (d_call (vs := [_, _]) rfl (rtimes_any _ _ _ _ hf hf _)) ?_
 rintro _ w5 ⟨hh1, rfl, E1, k5⟩
 refine ⟨k5, ?_⟩
 replace hb1 := hb1.keep0 k5
 replace hb2 := hb2.keep0 k5
 replace hb3 := hb3.keep0 k5
 replace hB := hB.trans k5
 refine pw_d [(7, _), (8, _)] rfl rfl ⟨rfl, rfl, trivial⟩ rfl (d_call (vs := [_, _]) rfl (rsame_any _ _ _ _ E1 hg _)) ?_
 rintro _ w6 ⟨rfl, k6⟩
 refine ⟨k6, ?_⟩
 replace hb1 := hb1.keep0 k6
 replace hb2 := hb2.keep0 k6
 replace hb3 := hb3.keep0 k6
 replace hB := hB.trans k6
 refine pw_nil ?_
 refine ow_nil (tw_if rfl (fun hc1 => ?_) (fun hc1 => ?_))
 ·
  refine tw_seq (tw_region (ow_g (g_ldab (cs' := iv .i64 16 f) ag36 ty36 rfl hb1 rfl rfl) rfl ?_))
  refine ow_d0 (d_stw (vs := iv .i64 16 f) ty36 rfl rfl rfl ivF_one hb3 rfl) ?_
  rintro _ w7 ⟨hb4, k7, z4⟩
  replace hb1 := hb1.keep k7 (fun hm => absurd (List.mem_singleton.1 hm) ne_b1_b3)
  replace hB := hB.new k7 (fun x hx => .inl ((List.mem_singleton.1 hx) ▸ ge_b3))
  clear z4
  refine ow_nil (tw_retc hfin Try.results76 rfl (run_loadAgg ag36 ty36 ‹_› rfl)  ?_)
  exact ⟨f, rfl, (by rw [if_pos hc1]; exact hf), hB⟩
 ·
  refine tw_skip (tw_seq (tw_plan 2 [0, 1] [1] [] mixed [(2, _), (4, _)] ⟨rfl, rfl, trivial⟩ (by decide +kernel) rfl (fun w8 k8 => ?_)))
  replace hb1 := hb1.keep0 k8
  replace hb3 := hb3.keep0 k8
  replace hB := hB.trans k8
  refine pw_g [(2, _)] rfl rfl ⟨rfl, trivial⟩ rfl (fun W' kk => g_ldab (cs' := iv .i64 16 f) ag36 ty36 rfl (Bk.keep0 hb1 kk) rfl rfl) ?_
  refine pw_d [] rfl rfl trivial rfl (d_call (vs := []) rfl (rminus1_any _)) ?_
  rintro _ w9 ⟨hh2, rfl, E2, k9⟩
  refine ⟨k9, ?_⟩
  replace hb1 := hb1.keep0 k9
  replace hb3 := hb3.keep0 k9
  replace hB := hB.trans k9
  refine pw_nil ?_
  refine ow_d (d_call (vs := [_, _]) rfl (rtimes_any _ _ _ _ hf E2 _)) rfl ?_
  rintro _ w10 ⟨hh3, rfl, E3, k10⟩
  replace hb1 := hb1.keep0 k10
  replace hb3 := hb3.keep0 k10
  replace hB := hB.trans k10
  refine ow_d0 (d_stw (vs := iv .i64 16 hh3) ty36 rfl rfl rfl ivF_one hb3 rfl) ?_
  rintro _ w11 ⟨hb5, k11, z5⟩
  replace hb1 := hb1.keep k11 (fun hm => absurd (List.mem_singleton.1 hm) ne_b1_b3)
  replace hB := hB.new k11 (fun x hx => .inl ((List.mem_singleton.1 hx) ▸ ge_b3))
  clear z5
  refine ow_nil (tw_retc hfin Try.results76 rfl (run_loadAgg ag36 ty36 ‹_› rfl)  ?_)
  exact ⟨hh3, rfl, (by rw [if_neg hc1]; exact E3), hB⟩
theorem even_and {x : Fp} {z : Int} {b : Bool} (hz : Eqn z (gb (fpB x) 0 % 2)) (h : decide (z = 1) = b) : decide (bits .and .u8 (gb (fpB x) 0) 1 = 1) = b := by
  have g := gb_range (fpB x) 0
  rw [and_mod (k := .u8) (a := 0) (b := 255) 1 (c := 1) (m := 2) g rfl rfl rfl rfl rfl rfl]
  unfold Eqn at hz; rw [← hz]; exact h
set_option maxRecDepth 100000 in
set_option maxHeartbeats 1000000 in
theorem rratio_any (f g : Nat → Int) (a b : Fp) (hf : RN f a) (hg : RN g b) (w : World) : Rets Try.prog 49 [.agg (iv .i64 16 f).toArray, .agg (iv .i64 16 g).toArray] w (fun v w' => ∃ r, v = .tuple #[.agg (iv .i64 16 r).toArray, .bool (rootOk a b)] ∧ RN r (rootF a b) ∧ Keep [] w w') := by
 have hB : Keep [] w w := Keep.refl _ _
 refine rets_of_tw Try.func49 rfl (by decide) Try.ntmps49 rfl (fun fin _ hfin => ?_)
 refine tw_seq (tw_region (ow_d (d_box (cs := iv .i64 16 f) rfl rfl) rfl ?_))
 rintro _ w1 ⟨b1, rfl, eb1, hb1, k1, z1⟩
 have ge_b1 : w.heap.size ≤ b1 := by have := hB.size; omega
 replace hB := hB.trans k1
 clear eb1 z1
 refine ow_d (d_box (cs := iv .i64 16 g) rfl rfl) rfl ?_
 rintro _ w2 ⟨b2, rfl, eb2, hb2, k2, z2⟩
 have ge_b2 : w.heap.size ≤ b2 := by have := hB.size; omega
 have ne_b1_b2 : b1 ≠ b2 := by have := hb1.lt; omega
 replace hb1 := hb1.keep0 k2
 replace hB := hB.trans k2
 clear eb2 z2
 refine ow_d (d_alloc ty36) rfl ?_
 rintro _ w3 ⟨b3, rfl, eb3, hb3, k3, z3⟩
 have ge_b3 : w.heap.size ≤ b3 := by have := hB.size; omega
 have ne_b1_b3 : b1 ≠ b3 := by have := hb1.lt; omega
 have ne_b2_b3 : b2 ≠ b3 := by have := hb2.lt; omega
 replace hb1 := hb1.keep0 k3
 replace hb2 := hb2.keep0 k3
 replace hB := hB.trans k3
 clear eb3 z3
 replace hb3 : Bk w3 b3 36 (iv .i64 16 (fun _ => 0)) := by rw [iv, ivF_rep]; exact hb3
 refine ow_g (g_as rfl) rfl (ow_nil (tw_seq ?_))
 have gs1 := hB.size
 have lt1 := hb1.lt
 have lt2 := hb2.lt
 have lt3 := hb3.lt
 refine tw_planA 5 [0, 1, 2, 3] [2, 3] [] [(4, 36, List.replicate 16 (.int .i64 0))] mixed [(2, _), (3, _), (4, _)] ⟨rfl, rfl, rfl, trivial⟩ (by decide +kernel) (by decide) (by decide) ?_ (fun x hx => by cases hx) rfl (fun w4 k4 => ?_)
 · simp only [List.forall_mem_cons]; exact ⟨⟨_, _, _, _, _, _, rfl, ty36⟩, fun q hq => by cases hq⟩
 replace hb1 := hb1.keep0 k4
 replace hb2 := hb2.keep0 k4
 replace hb3 := hb3.keep0 k4
 replace hB := hB.trans k4
 refine pa_g [(2, _)] rfl rfl ⟨rfl, trivial⟩ rfl (fun W' kk => g_ldab (cs' := iv .i64 16 f) ag36 ty36 rfl (Bk.keep0 hb1 kk) rfl rfl) ?_
 refine pa_g [(3, _)] rfl rfl ⟨rfl, trivial⟩ rfl (fun W' kk => g_ldab (cs' := iv .i64 16 g) ag36 ty36 rfl (Bk.keep0 hb2 kk) rfl rfl) ?_
 refine pa_d [(9, _)] rfl rfl ⟨rfl, trivial⟩ rfl (fun w6 k6 => ?_)
 replace hb1 := hb1.keep0 k6
 replace hb2 := hb2.keep0 k6
 replace hb3 := hb3.keep0 k6
 replace hB := hB.trans k6
 refine (d_call (vs := [_]) rfl (rinverse_any _ _ hg _)).mono ?_
 rintro _ w5 ⟨hh1, rfl, E1, k5⟩
 refine ⟨k5, (fun x hx => by have hx : x ∈ ([] : List Nat) := hx; cases hx), ?_⟩
 replace hb1 := hb1.keep0 k5
 replace hb2 := hb2.keep0 k5
 replace hb3 := hb3.keep0 k5
 replace hB := hB.trans k5
 refine pa_d [(8, _), (10, _)] rfl rfl ⟨rfl, rfl, trivial⟩ rfl (fun w8 k8 => ?_)
 replace hb1 := hb1.keep0 k8
 replace hb2 := hb2.keep0 k8
 replace hb3 := hb3.keep0 k8
 replace hB := hB.trans k8
 refine (d_call (vs := [_, _]) rfl (rtimes_any _ _ _ _ hf E1 _)).mono ?_
 rintro _ w7 ⟨hh2, rfl, E2, k7⟩
 refine ⟨k7, (fun x hx => by have hx : x ∈ ([] : List Nat) := hx; cases hx), ?_⟩
 replace hb1 := hb1.keep0 k7
 replace hb2 := hb2.keep0 k7
 replace hb3 := hb3.keep0 k7
 replace hB := hB.trans k7
 refine pa_nil (fun w9 k9 => ?_)
 replace hb1 := hb1.keep0 k9
 replace hb2 := hb2.keep0 k9
 replace hb3 := hb3.keep0 k9
 replace hB := hB.trans k9
 intro b4 eb4 lb1 hb4 ds1 sp1
 have ge_b4 : w.heap.size ≤ b4 := Nat.le_trans gs1 eb4
 have ne_b1_b4 : b1 ≠ b4 := Nat.ne_of_lt (Nat.lt_of_lt_of_le lt1 eb4)
 have ne_b2_b4 : b2 ≠ b4 := Nat.ne_of_lt (Nat.lt_of_lt_of_le lt2 eb4)
 have ne_b3_b4 : b3 ≠ b4 := Nat.ne_of_lt (Nat.lt_of_lt_of_le lt3 eb4)
 replace hb4 : Bk w9 b4 36 (iv .i64 16 (fun _ => 0)) := by rw [iv, ivF_rep]; exact hb4
 refine fina_nil ?_
 refine ow_d0 (d_stw (vs := iv .i64 16 hh2) ty36 rfl rfl rfl ivF_one hb4 rfl) ?_
 rintro _ w10 ⟨hb5, k10, z4⟩
 replace hb1 := hb1.keep k10 (fun hm => absurd (List.mem_singleton.1 hm) ne_b1_b4)
 replace hb2 := hb2.keep k10 (fun hm => absurd (List.mem_singleton.1 hm) ne_b2_b4)
 replace hb3 := hb3.keep k10 (fun hm => absurd (List.mem_singleton.1 hm) ne_b3_b4)
 replace hB := hB.new k10 (fun x hx => .inl ((List.mem_singleton.1 hx) ▸ ge_b4))
 clear z4
 refine ow_nil (tw_seq (tw_region (ow_g (g_ldab (cs' := iv .i64 16 hh2) ag36 ty36 rfl hb5 rfl rfl) rfl ?_)))
 refine ow_d (d_call (vs := [_, _, _, _]) rfl (rpower_any _ _ 252 14 4 E2 (by decide) _)) rfl ?_
 rintro _ w11 ⟨hh3, rfl, E3, k11⟩
 replace hb1 := hb1.keep0 k11
 replace hb2 := hb2.keep0 k11
 replace hb3 := hb3.keep0 k11
 replace hb5 := hb5.keep0 k11
 replace hB := hB.trans k11
 rw [pe_root] at E3
 replace E3 : RN hh3 (fpow (a * (inv b)) 7237005577332262213973186563042994240829374041602535252466099000494570602494) := E3
 refine ow_d (d_alloc ty36) rfl ?_
 rintro _ w12 ⟨b5, rfl, eb5, hb6, k12, z5⟩
 have ge_b5 : w.heap.size ≤ b5 := by have := hB.size; omega
 have ne_b1_b5 : b1 ≠ b5 := by have := hb1.lt; omega
 have ne_b2_b5 : b2 ≠ b5 := by have := hb2.lt; omega
 have ne_b3_b5 : b3 ≠ b5 := by have := hb3.lt; omega
 have ne_b4_b5 : b4 ≠ b5 := by have := hb5.lt; omega
 replace hb1 := hb1.keep0 k12
 replace hb2 := hb2.keep0 k12
 replace hb3 := hb3.keep0 k12
 replace hb5 := hb5.keep0 k12
 replace hB := hB.trans k12
 clear eb5 z5
 replace hb6 : Bk w12 b5 36 (iv .i64 16 (fun _ => 0)) := by rw [iv, ivF_rep]; exact hb6
 refine ow_d0 (d_stw (vs := iv .i64 16 hh3) ty36 rfl rfl rfl ivF_one hb6 rfl) ?_
 rintro _ w13 ⟨hb7, k13, z6⟩
 replace hb1 := hb1.keep k13 (fun hm => absurd (List.mem_singleton.1 hm) ne_b1_b5)
 replace hb2 := hb2.keep k13 (fun hm => absurd (List.mem_singleton.1 hm) ne_b2_b5)
 replace hb3 := hb3.keep k13 (fun hm => absurd (List.mem_singleton.1 hm) ne_b3_b5)
 replace hb5 := hb5.keep k13 (fun hm => absurd (List.mem_singleton.1 hm) ne_b4_b5)
 replace hB := hB.new k13 (fun x hx => .inl ((List.mem_singleton.1 hx) ▸ ge_b5))
 clear z6
 refine ow_nil (tw_seq (tw_region (ow_g (g_ldab (cs' := iv .i64 16 hh3) ag36 ty36 rfl hb7 rfl rfl) rfl ?_)))
 refine ow_g (g_ldab (cs' := iv .i64 16 hh2) ag36 ty36 rfl hb5 rfl rfl) rfl ?_
 refine ow_d (d_call (vs := [_, _]) rfl (rfit_any _ _ _ _ E3 E2 _)) rfl ?_
 rintro _ w14 ⟨hh4, rfl, E4, k14⟩
 replace hb1 := hb1.keep0 k14
 replace hb2 := hb2.keep0 k14
 replace hb3 := hb3.keep0 k14
 replace hb5 := hb5.keep0 k14
 replace hb7 := hb7.keep0 k14
 replace hB := hB.trans k14
 replace E4 : RN hh4 (root1 (a * (inv b))) := E4
 refine ow_d0 (d_stw (vs := iv .i64 16 hh4) ty36 rfl rfl rfl ivF_one hb7 rfl) ?_
 rintro _ w15 ⟨hb8, k15, z7⟩
 replace hb1 := hb1.keep k15 (fun hm => absurd (List.mem_singleton.1 hm) ne_b1_b5)
 replace hb2 := hb2.keep k15 (fun hm => absurd (List.mem_singleton.1 hm) ne_b2_b5)
 replace hb3 := hb3.keep k15 (fun hm => absurd (List.mem_singleton.1 hm) ne_b3_b5)
 replace hb5 := hb5.keep k15 (fun hm => absurd (List.mem_singleton.1 hm) ne_b4_b5)
 replace hB := hB.new k15 (fun x hx => .inl ((List.mem_singleton.1 hx) ▸ ge_b5))
 clear z7
 refine ow_nil (tw_seq (tw_seq (tw_planA 17 [0, 1, 3, 2, 4, 5, 6, 7, 8, 9, 10, 11, 12, 13, 14, 15, 16] [2, 4, 8, 9, 12, 13] [] [] mixed [(7, _), (6, _), (3, _), (2, _), (4, _)] ⟨rfl, rfl, rfl, rfl, rfl, trivial⟩ (by decide +kernel) (by decide) (by decide) ?_ (fun x hx => by cases hx) rfl (fun w16 k16 => ?_))))
 · intro q hq; cases hq
 replace hb1 := hb1.keep0 k16
 replace hb2 := hb2.keep0 k16
 replace hb3 := hb3.keep0 k16
 replace hb5 := hb5.keep0 k16
 replace hb8 := hb8.keep0 k16
 replace hB := hB.trans k16
 refine pa_g [(7, _)] rfl rfl ⟨rfl, trivial⟩ rfl (fun W' kk => g_ldab (cs' := iv .i64 16 hh4) ag36 ty36 rfl (Bk.keep0 hb8 kk) rfl rfl) ?_
 refine pa_g [(7, _)] rfl rfl ⟨rfl, trivial⟩ rfl (fun W' kk => g_ldab (cs' := iv .i64 16 hh4) ag36 ty36 rfl (Bk.keep0 hb8 kk) rfl rfl) ?_
 refine pa_g [(6, _)] rfl rfl ⟨rfl, trivial⟩ rfl (fun W' kk => g_ldab (cs' := iv .i64 16 hh2) ag36 ty36 rfl (Bk.keep0 hb5 kk) rfl rfl) ?_
 refine pa_d [(17, _), (18, _)] rfl rfl ⟨rfl, rfl, trivial⟩ rfl (fun w18 k18 => ?_)
 replace hb1 := hb1.keep0 k18
 replace hb2 := hb2.keep0 k18
 replace hb3 := hb3.keep0 k18
 replace hb5 := hb5.keep0 k18
 replace hb8 := hb8.keep0 k18
 replace hB := hB.trans k18
 refine (d_call (vs := [_, _]) rfl (rtimes_any _ _ _ _ E4 E4 _)).mono ?_
 rintro _ w17 ⟨hh5, rfl, E5, k17⟩
 refine ⟨k17, (fun x hx => by have hx : x ∈ ([] : List Nat) := hx; cases hx), ?_⟩
 replace hb1 := hb1.keep0 k17
 replace hb2 := hb2.keep0 k17
 replace hb3 := hb3.keep0 k17
 replace hb5 := hb5.keep0 k17
 replace hb8 := hb8.keep0 k17
 replace hB := hB.trans k17
 refine pa_d [(19, _), (20, _)] rfl rfl ⟨rfl, rfl, trivial⟩ rfl (fun w20 k20 => ?_)
 replace hb1 := hb1.keep0 k20
 replace hb2 := hb2.keep0 k20
 replace hb3 := hb3.keep0 k20
 replace hb5 := hb5.keep0 k20
 replace hb8 := hb8.keep0 k20
 replace hB := hB.trans k20
 refine (d_call (vs := [_, _]) rfl (rsame_any _ _ _ _ E5 E2 _)).mono ?_
 rintro _ w19 ⟨rfl, k19⟩
 refine ⟨k19, (fun x hx => by have hx : x ∈ ([] : List Nat) := hx; cases hx), ?_⟩
 replace hb1 := hb1.keep0 k19
 replace hb2 := hb2.keep0 k19
 replace hb3 := hb3.keep0 k19
 replace hb5 := hb5.keep0 k19
 replace hb8 := hb8.keep0 k19
 replace hB := hB.trans k19
 refine pa_g [(21, _)] rfl rfl ⟨rfl, trivial⟩ rfl (fun W' kk => g_notd rfl) ?_
 refine pa_g [(22, _)] rfl rfl ⟨rfl, trivial⟩ rfl (fun W' kk => g_mv rfl) ?_
 refine pa_grp 23 false rfl (fun c1 hgc1 => ?_)
 refine pa_gg [(3, _), (23, _)] [(3, _)] rfl rfl ⟨rfl, rfl, trivial⟩ rfl (grd1 rfl rfl rfl hgc1) ⟨und0 rfl, trivial⟩ (fun hw1 => (fun W' kk => g_ldab (cs' := iv .i64 16 g) ag36 ty36 rfl (Bk.keep0 hb2 kk) rfl rfl)) ?_
 refine pa_gdk (V := .agg (iv .i64 16 (fun _ => 0)).toArray) [(23, _)] [] rfl rfl ⟨rfl, trivial⟩ rfl (grd1 rfl rfl rfl hgc1) trivial rfl (fun W1 kk hw2 => (d_call (vs := [_]) rfl (rsmall_zero _)).mono (by rintro _ w21 ⟨rfl, k21⟩; exact ⟨rfl, k21⟩)) (fun w22 k22 => ?_)
 replace hb1 := hb1.keep0 k22
 replace hb2 := hb2.keep0 k22
 replace hb3 := hb3.keep0 k22
 replace hb5 := hb5.keep0 k22
 replace hb8 := hb8.keep0 k22
 replace hB := hB.trans k22
 refine pa_gdk (V := .bool (decide (b = 0))) [(23, _), (24, _), (25, _)] [(24, _), (25, _)] rfl rfl ⟨rfl, rfl, rfl, trivial⟩ rfl (grd1 rfl rfl rfl hgc1) ⟨und1 rfl, und1 rfl, trivial⟩ rfl (fun W1 kk hw3 => (d_call (vs := [_, _]) rfl (rsame_any _ _ _ _ hg rn_zero _)).mono (by rintro _ w23 ⟨rfl, k23⟩; exact ⟨rfl, k23⟩)) (fun w24 k24 => ?_)
 replace hb1 := hb1.keep0 k24
 replace hb2 := hb2.keep0 k24
 replace hb3 := hb3.keep0 k24
 replace hb5 := hb5.keep0 k24
 replace hb8 := hb8.keep0 k24
 replace hB := hB.trans k24
 refine pa_gg [(23, _), (26, _)] [(26, _)] rfl rfl ⟨rfl, rfl, trivial⟩ rfl (grd1 rfl rfl rfl hgc1) ⟨und1 rfl, trivial⟩ (fun hw4 => (fun W' kk => g_mv rfl)) ?_
 refine pa_grp2 27 true rfl (fun c2 hgc2 => ?_)
 refine pa_gg [(2, _), (27, _)] [(2, _)] rfl rfl ⟨rfl, rfl, trivial⟩ rfl (grd2 rfl rfl rfl hgc2) ⟨und0 rfl, trivial⟩ (fun hw5 => (fun W' kk => g_ldab (cs' := iv .i64 16 f) ag36 ty36 rfl (Bk.keep0 hb1 kk) rfl rfl)) ?_
 refine pa_gdk (V := .agg (iv .i64 16 (fun _ => 0)).toArray) [(27, _)] [] rfl rfl ⟨rfl, trivial⟩ rfl (grd2 rfl rfl rfl hgc2) trivial rfl (fun W1 kk hw6 => (d_call (vs := [_]) rfl (rsmall_zero _)).mono (by rintro _ w25 ⟨rfl, k25⟩; exact ⟨rfl, k25⟩)) (fun w26 k26 => ?_)
 replace hb1 := hb1.keep0 k26
 replace hb2 := hb2.keep0 k26
 replace hb3 := hb3.keep0 k26
 replace hb5 := hb5.keep0 k26
 replace hb8 := hb8.keep0 k26
 replace hB := hB.trans k26
 refine pa_gdk (V := .bool (decide (a = 0))) [(27, _), (28, _), (29, _)] [(28, _), (29, _)] rfl rfl ⟨rfl, rfl, rfl, trivial⟩ rfl (grd2 rfl rfl rfl hgc2) ⟨und1 rfl, und1 rfl, trivial⟩ rfl (fun W1 kk hw7 => (d_call (vs := [_, _]) rfl (rsame_any _ _ _ _ hf rn_zero _)).mono (by rintro _ w27 ⟨rfl, k27⟩; exact ⟨rfl, k27⟩)) (fun w28 k28 => ?_)
 replace hb1 := hb1.keep0 k28
 replace hb2 := hb2.keep0 k28
 replace hb3 := hb3.keep0 k28
 replace hb5 := hb5.keep0 k28
 replace hb8 := hb8.keep0 k28
 replace hB := hB.trans k28
 refine pa_gg [(27, _), (30, _)] [(30, _)] rfl rfl ⟨rfl, rfl, trivial⟩ rfl (grd2 rfl rfl rfl hgc2) ⟨und1 rfl, trivial⟩ (fun hw8 => (fun W' kk => g_notd rfl)) ?_
 refine pa_pand (dj := 0) [(23, _), (27, _), (31, _)] rfl rfl ⟨rfl, rfl, rfl, trivial⟩ rfl (grd1 rfl rfl rfl hgc1) (und1 rfl) rfl hgc2 rfl ?_
 refine pa_g [(23, _), (32, _)] rfl rfl ⟨rfl, rfl, trivial⟩ rfl (fun W' kk => g_por rfl rfl hgc1) ?_
 refine pa_nil (fun w29 k29 => ?_)
 replace hb1 := hb1.keep0 k29
 replace hb2 := hb2.keep0 k29
 replace hb3 := hb3.keep0 k29
 replace hb5 := hb5.keep0 k29
 replace hb8 := hb8.keep0 k29
 replace hB := hB.trans k29
 refine fina_nil ?_
 refine ow_nil (tw_keep [(7, _), (4, _), (33, _)] ⟨rfl, rfl, rfl, trivial⟩ ?_)
 refine tw_cond rfl (fun hc1 => ?_) (fun hc1 => ?_)
 ·
  have hd1 := hc1
  try (simp only [Bool.and_eq_true, Bool.or_eq_true, decide_eq_true_eq, Bool.and_eq_false_iff, Bool.or_eq_false_iff, decide_eq_false_iff_not, Bool.not_eq_true', Bool.not_eq_false', Bool.not_eq_true, Bool.not_eq_false, ne_eq, Decidable.not_not, decide_true, decide_false, Bool.true_and, Bool.false_and, Bool.or_false, Bool.false_or, not_true_eq_false, false_or, or_false, true_and, and_true, not_false_eq_true, reduceCtorEq] at hd1)
  refine tw_seq (tw_region (ow_d (d_call (vs := [_]) rfl (rsmall_zero _)) rfl ?_))
  rintro _ w30 ⟨rfl, k30⟩
  replace hb1 := hb1.keep0 k30
  replace hb2 := hb2.keep0 k30
  replace hb3 := hb3.keep0 k30
  replace hb5 := hb5.keep0 k30
  replace hb8 := hb8.keep0 k30
  replace hB := hB.trans k30
  refine ow_d0 (d_stw (vs := iv .i64 16 (fun _ => 0)) ty36 rfl rfl rfl ivF_one hb3 rfl) ?_
  rintro _ w31 ⟨hb9, k31, z8⟩
  replace hb1 := hb1.keep k31 (fun hm => absurd (List.mem_singleton.1 hm) ne_b1_b3)
  replace hb2 := hb2.keep k31 (fun hm => absurd (List.mem_singleton.1 hm) ne_b2_b3)
  replace hb5 := hb5.keep k31 (fun hm => absurd (List.mem_singleton.1 hm) (Ne.symm ne_b3_b4))
  replace hb8 := hb8.keep k31 (fun hm => absurd (List.mem_singleton.1 hm) (Ne.symm ne_b3_b5))
  replace hB := hB.new k31 (fun x hx => .inl ((List.mem_singleton.1 hx) ▸ ge_b3))
  clear z8
  refine ow_g (g_as rfl) rfl (ow_nil (tw_retct hfin Try.results49 rfl (run_loadAgg ag36 ty36 ‹_› rfl) rfl ?_))
  exact ⟨(fun _ => 0), by rw [rootS_F (rfl : root1 (a * inv b) = _) hc1], by rw [rootF_F (rootS_F (rfl : root1 (a * inv b) = _) hc1)]; exact rn_zero, hB⟩
 ·
  have hd2 := hc1
  try (simp only [Bool.and_eq_true, Bool.or_eq_true, decide_eq_true_eq, Bool.and_eq_false_iff, Bool.or_eq_false_iff, decide_eq_false_iff_not, Bool.not_eq_true', Bool.not_eq_false', Bool.not_eq_true, Bool.not_eq_false, ne_eq, Decidable.not_not, decide_true, decide_false, Bool.true_and, Bool.false_and, Bool.or_false, Bool.false_or, not_true_eq_false, false_or, or_false, true_and, and_true, not_false_eq_true, reduceCtorEq] at hd2)
  refine tw_skip (tw_seq (tw_seq (tw_region (ow_g (g_ldab (cs' := iv .i64 16 hh4) ag36 ty36 rfl hb8 rfl rfl) rfl ?_))))
  refine ow_d (d_call (vs := [_]) rfl (rbytes_any _ _ E4 _)) rfl ?_
  rintro v1 w32 ⟨o1, k32⟩
  have gl_o1 := hB.size
  have sb_b1_o1 := fun x hx => (show x ≠ b1 from by have h1 := (o1.blk x hx).1; have h2 := hb1.lt; omega)
  have sb_b2_o1 := fun x hx => (show x ≠ b2 from by have h1 := (o1.blk x hx).1; have h2 := hb2.lt; omega)
  have sb_b3_o1 := fun x hx => (show x ≠ b3 from by have h1 := (o1.blk x hx).1; have h2 := hb3.lt; omega)
  have sb_b4_o1 := fun x hx => (show x ≠ b4 from by have h1 := (o1.blk x hx).1; have h2 := hb5.lt; omega)
  have sb_b5_o1 := fun x hx => (show x ≠ b5 from by have h1 := (o1.blk x hx).1; have h2 := hb8.lt; omega)
  replace hb1 := hb1.keep0 k32
  replace hb2 := hb2.keep0 k32
  replace hb3 := hb3.keep0 k32
  replace hb5 := hb5.keep0 k32
  replace hb8 := hb8.keep0 k32
  replace hB := hB.trans k32
  have u_o1 := o1.blk
  refine ow_g (g_ix Try.underlying22 ty5 rfl (by first | assumption | exact Own.rd ‹_› | exact Rd.keep0 ‹_› hB | exact Own.rd (Own.keep0 ‹_› hB)) rfl (by rw [fpB_length]; decide)) rfl ?_
  refine ow_g (g_ldB sc5 rfl o1.rd (by rw [fpB_length]; decide)) rfl ?_
  refine ow_gx (e' := (gb (fpB (root1 (a * (inv b)))) 0) % 2) (lo := 0) (hi := 1) (g_rem rfl rfl ⟨(gb_range _ _).1, by decide⟩) (rfl) (In.wk (in_mod _ (by decide)) rfl) rfl (fun z9 h1 r1 => ?_)
  refine ow_g (g_eq rfl rfl) rfl ?_
  refine ow_nil (tw_if rfl (fun hc2 => ?_) (fun hc2 => ?_))
  ·
   refine tw_plan 2 [1, 0] [0] [] mixed [(7, _), (4, _)] ⟨rfl, rfl, trivial⟩ (by decide +kernel) rfl (fun w33 k33 => ?_)
   replace hb3 := hb3.keep0 k33
   replace hb8 := hb8.keep0 k33
   replace o1 := o1.keep0 k33
   replace hB := hB.trans k33
   refine pw_g [(7, _)] rfl rfl ⟨rfl, trivial⟩ rfl (fun W' kk => g_ldab (cs' := iv .i64 16 hh4) ag36 ty36 rfl (Bk.keep0 hb8 kk) rfl rfl) ?_
   refine pw_d [] rfl rfl trivial rfl (d_call (vs := [_]) rfl (rsmall_zero _)) ?_
   rintro _ w34 ⟨rfl, k34⟩
   refine ⟨k34, ?_⟩
   replace hb3 := hb3.keep0 k34
   replace hb8 := hb8.keep0 k34
   replace o1 := o1.keep0 k34
   replace hB := hB.trans k34
   refine pw_nil ?_
   refine ow_d (d_call (vs := [_, _]) rfl (rminus_any _ _ _ _ rn_zero E4 _)) rfl ?_
   rintro _ w35 ⟨hh6, rfl, E6, k35⟩
   replace hb3 := hb3.keep0 k35
   replace hb8 := hb8.keep0 k35
   replace o1 := o1.keep0 k35
   replace hB := hB.trans k35
   refine ow_d0 (d_stw (vs := iv .i64 16 hh6) ty36 rfl rfl rfl ivF_one hb8 rfl) ?_
   rintro _ w36 ⟨hb10, k36, z10⟩
   replace hb3 := hb3.keep k36 (fun hm => absurd (List.mem_singleton.1 hm) ne_b3_b5)
   replace o1 := o1.keep k36 (fun x hx hm => sb_b5_o1 x hx (List.mem_singleton.1 hm))
   replace hB := hB.new k36 (fun x hx => .inl ((List.mem_singleton.1 hx) ▸ ge_b5))
   clear z10
   refine ow_nil (tw_seq (tw_region (ow_g (g_ldab (cs' := iv .i64 16 hh6) ag36 ty36 rfl hb10 rfl rfl) rfl ?_)))
   refine ow_d0 (d_stw (vs := iv .i64 16 hh6) ty36 rfl rfl rfl ivF_one hb3 rfl) ?_
   rintro _ w37 ⟨hb11, k37, z11⟩
   replace o1 := o1.keep k37 (fun x hx hm => sb_b3_o1 x hx (List.mem_singleton.1 hm))
   replace hb10 := hb10.keep k37 (fun hm => absurd (List.mem_singleton.1 hm) (Ne.symm ne_b3_b5))
   replace hB := hB.new k37 (fun x hx => .inl ((List.mem_singleton.1 hx) ▸ ge_b3))
   clear z11
   refine ow_g (g_as rfl) rfl (ow_nil (tw_retct hfin Try.results49 rfl (run_loadAgg ag36 ty36 ‹_› rfl) rfl ?_))
   exact ⟨hh6, by rw [rootS_T (rfl : root1 (a * inv b) = _) hc1], by rw [rootF_odd (rootS_T (rfl : root1 (a * inv b) = _) hc1) (rfl : root1 (a * inv b) = _) (of_decide_eq_true (even_and h1 (decide_eq_true hc2)))]; exact E6, hB⟩
  ·
   refine tw_skip (tw_seq (tw_region (ow_g (g_ldab (cs' := iv .i64 16 hh4) ag36 ty36 rfl hb8 rfl rfl) rfl ?_)))
   refine ow_d0 (d_stw (vs := iv .i64 16 hh4) ty36 rfl rfl rfl ivF_one hb3 rfl) ?_
   rintro _ w38 ⟨hb12, k38, z12⟩
   replace hb8 := hb8.keep k38 (fun hm => absurd (List.mem_singleton.1 hm) (Ne.symm ne_b3_b5))
   replace o1 := o1.keep k38 (fun x hx hm => sb_b3_o1 x hx (List.mem_singleton.1 hm))
   replace hB := hB.new k38 (fun x hx => .inl ((List.mem_singleton.1 hx) ▸ ge_b3))
   clear z12
   refine ow_g (g_as rfl) rfl (ow_nil (tw_retct hfin Try.results49 rfl (run_loadAgg ag36 ty36 ‹_› rfl) rfl ?_))
   exact ⟨hh4, by rw [rootS_T (rfl : root1 (a * inv b) = _) hc1], by rw [rootF_even (rootS_T (rfl : root1 (a * inv b) = _) hc1) (rfl : root1 (a * inv b) = _) (of_decide_eq_false (even_and h1 (decide_eq_false hc2)))]; exact E4, hB⟩
end Go.Proofs.Ytkngeapegpehpaa.W
namespace Go.Proofs.Ytkngeapegpehpaa.W
open Go Go.Eng Go.Byt
set_option linter.unusedVariables false
set_option linter.unusedSimpArgs false
open Go.Fld Go.Ed
def PtEl (p : Nat → Int) (X Y Z T : Fp) : Prop := El p X ∧ El (vecN [(p 5), (p 6), (p 7), (p 8), (p 9)]) Y ∧ El (vecN [(p 10), (p 11), (p 12), (p 13), (p 14)]) Z ∧ El (vecN [(p 15), (p 16), (p 17), (p 18), (p 19)]) T
set_option maxRecDepth 100000 in
set_option maxHeartbeats 1000000 in
theorem affine_any (f g : Nat → Int) (a b : Fp) (hf : El f a) (hg : El g b) (w : World) : Rets Try.prog 43 [.agg (iv .u64 5 f).toArray, .agg (iv .u64 5 g).toArray] w (fun v w' => ∃ p, v = .agg (iv .u64 20 p).toArray ∧ PtEl p a b (fp 1) (a * b) ∧ Keep [] w w') := by
 have hB : Keep [] w w := Keep.refl _ _
 refine rets_of_tw Try.func43 rfl (by decide) Try.ntmps43 rfl (fun fin _ hfin => ?_)
 refine tw_seq (tw_region (ow_d (d_box (cs := [.int .u64 (f 0), .int .u64 (f 1), .int .u64 (f 2), .int .u64 (f 3), .int .u64 (f 4)]) rfl rfl) rfl ?_))
 rintro _ w1 ⟨b1, rfl, eb1, hb1, k1, z1⟩
 have ge_b1 : w.heap.size ≤ b1 := by have := hB.size; omega
 replace hB := hB.trans k1
 clear eb1 z1
 refine ow_d (d_box (cs := [.int .u64 (g 0), .int .u64 (g 1), .int .u64 (g 2), .int .u64 (g 3), .int .u64 (g 4)]) rfl rfl) rfl ?_
 rintro _ w2 ⟨b2, rfl, eb2, hb2, k2, z2⟩
 have ge_b2 : w.heap.size ≤ b2 := by have := hB.size; omega
 have ne_b1_b2 : b1 ≠ b2 := by have := hb1.lt; omega
 replace hb1 := hb1.keep0 k2
 replace hB := hB.trans k2
 clear eb2 z2
 refine ow_d (d_alloc ty30) rfl ?_
 rintro _ w3 ⟨b3, rfl, eb3, hb3, k3, z3⟩
 have ge_b3 : w.heap.size ≤ b3 := by have := hB.size; omega
 have ne_b1_b3 : b1 ≠ b3 := by have := hb1.lt; omega
 have ne_b2_b3 : b2 ≠ b3 := by have := hb2.lt; omega
 replace hb1 := hb1.keep0 k3
 replace hb2 := hb2.keep0 k3
 replace hB := hB.trans k3
 clear eb3 z3
 refine ow_nil (tw_seq (tw_plan 7 [0, 1, 3, 4, 2, 5, 6] [2, 5] [] mixed [(2, _), (3, _), (4, _)] ⟨rfl, rfl, rfl, trivial⟩ (by decide +kernel) rfl (fun w4 k4 => ?_)))
 replace hb1 := hb1.keep0 k4
 replace hb2 := hb2.keep0 k4
 replace hb3 := hb3.keep0 k4
 replace hB := hB.trans k4
 refine pw_g [(2, _)] rfl rfl ⟨rfl, trivial⟩ rfl (fun W' kk => g_ldab (cs' := [_, _, _, _, _]) ag28 ty28 rfl (Bk.keep0 hb1 kk) rfl rfl) ?_
 refine pw_g [(3, _)] rfl rfl ⟨rfl, trivial⟩ rfl (fun W' kk => g_ldab (cs' := [_, _, _, _, _]) ag28 ty28 rfl (Bk.keep0 hb2 kk) rfl rfl) ?_
 refine pw_g [(2, _)] rfl rfl ⟨rfl, trivial⟩ rfl (fun W' kk => g_ldab (cs' := [_, _, _, _, _]) ag28 ty28 rfl (Bk.keep0 hb1 kk) rfl rfl) ?_
 refine pw_g [(3, _)] rfl rfl ⟨rfl, trivial⟩ rfl (fun W' kk => g_ldab (cs' := [_, _, _, _, _]) ag28 ty28 rfl (Bk.keep0 hb2 kk) rfl rfl) ?_
 refine pw_d [] rfl rfl trivial rfl (d_call (vs := [_]) rfl (Small_any _ (by decide) _)) ?_
 rintro _ w5 ⟨hh1, rfl, E1, k5⟩
 refine ⟨k5, ?_⟩
 replace hb1 := hb1.keep0 k5
 replace hb2 := hb2.keep0 k5
 replace hb3 := hb3.keep0 k5
 replace hB := hB.trans k5
 refine pw_d [(8, _), (9, _)] rfl rfl ⟨rfl, rfl, trivial⟩ rfl (d_call (vs := [_, _]) rfl (ntimes_any _ _ _ _ hf hg _)) ?_
 rintro _ w6 ⟨hh2, rfl, E2, k6⟩
 refine ⟨k6, ?_⟩
 replace hb1 := hb1.keep0 k6
 replace hb2 := hb2.keep0 k6
 replace hb3 := hb3.keep0 k6
 replace hB := hB.trans k6
 refine pw_g [(5, _), (6, _), (7, _), (10, _)] rfl rfl ⟨rfl, rfl, rfl, rfl, trivial⟩ rfl (fun W' kk => g_bld (idx := [0, 1, 2, 3]) (xs := [.tmp 5, .tmp 6, .tmp 7, .tmp 10]) (vs := [_, _, _, _]) (css := [[_, _, _, _, _], [_, _, _, _, _], [_, _, _, _, _], [_, _, _, _, _]]) (out := [_, _, _, _, _, _, _, _, _, _, _, _, _, _, _, _, _, _, _, _]) pl30 ty30 rfl rfl ⟨rfl, rfl, rfl, rfl, trivial⟩ rfl rfl) ?_
 refine pw_nil ?_
 refine ow_d0 (d_sta ty30 rfl rfl rfl (by simp only [List.forall_mem_cons]; refine ⟨rfl, rfl, rfl, rfl, rfl, rfl, rfl, rfl, rfl, rfl, rfl, rfl, rfl, rfl, rfl, rfl, rfl, rfl, rfl, rfl, fun v hv => by cases hv⟩) hb3 rfl) ?_
 rintro _ w7 ⟨hb4, k7, z4⟩
 replace hb1 := hb1.keep k7 (fun hm => absurd (List.mem_singleton.1 hm) ne_b1_b3)
 replace hb2 := hb2.keep k7 (fun hm => absurd (List.mem_singleton.1 hm) ne_b2_b3)
 replace hB := hB.new k7 (fun x hx => .inl ((List.mem_singleton.1 hx) ▸ ge_b3))
 clear z4
 replace hb4 : Bk w7 b3 _ [.int .u64 (f 0), .int .u64 (f 1), .int .u64 (f 2), .int .u64 (f 3), .int .u64 (f 4), .int .u64 (g 0), .int .u64 (g 1), .int .u64 (g 2), .int .u64 (g 3), .int .u64 (g 4), .int .u64 (hh1 0), .int .u64 (hh1 1), .int .u64 (hh1 2), .int .u64 (hh1 3), .int .u64 (hh1 4), .int .u64 (hh2 0), .int .u64 (hh2 1), .int .u64 (hh2 2), .int .u64 (hh2 3), .int .u64 (hh2 4)] := hb4
 refine ow_nil (tw_retc hfin Try.results43 rfl (run_loadAgg ag30 ty30 ‹_› rfl)  ?_)
 exact ⟨(vecN [(f 0), (f 1), (f 2), (f 3), (f 4), (g 0), (g 1), (g 2), (g 3), (g 4), (hh1 0), (hh1 1), (hh1 2), (hh1 3), (hh1 4), (hh2 0), (hh2 1), (hh2 2), (hh2 3), (hh2 4)]), rfl, ⟨hf, hg, E1, E2⟩, hB⟩
end Go.Proofs.Ytkngeapegpehpaa.W
namespace Go.Proofs.Ytkngeapegpehpaa.W
open Go Go.Eng Go.Byt Go.Fld Go.Ed
def PtR (p : Nat → Int) (a : Pt) : Prop := ∃ Z, Z ≠ 0 ∧ PtEl p (a.1 * Z) (a.2 * Z) Z (a.1 * a.2 * Z)
theorem one_fp : fp 1 = 1 := by decide
theorem one_ne : (1 : Fp) ≠ 0 := by decide
theorem ptr_mk {p : Nat → Int} {X Y Z T : Fp} {a : Pt} (h : PtEl p X Y Z T) (hz : Z ≠ 0) (hx : X = a.1 * Z) (hy : Y = a.2 * Z) (ht : T = a.1 * a.2 * Z) : PtR p a := ⟨Z, hz, by subst hx hy ht; exact h⟩
theorem ptr_affine {p : Nat → Int} {x y : Fp} (h : PtEl p x y (fp 1) (x * y)) : PtR p (x, y) := by
  rw [one_fp] at h
  refine ptr_mk h one_ne ?_ ?_ ?_ <;> (show _ = _ * (1 : Fp); grind -lia -linarith)
theorem ptr_zero {p : Nat → Int} (h : PtEl p 0 (fp 1) (fp 1) (0 * fp 1)) : PtR p zero := by
  rw [one_fp] at h
  exact ptr_mk h one_ne (by decide) (by decide) (by decide)
end Go.Proofs.Ytkngeapegpehpaa.W
namespace Go.Proofs.Ytkngeapegpehpaa.W
open Go Go.Eng Go.Byt
set_option linter.unusedVariables false
set_option linter.unusedSimpArgs false
open Go.Fld Go.Ed
theorem d_bytes : fp (leI [163, 120, 89, 19, 202, 77, 235, 117, 171, 216, 65, 65, 77, 10, 112, 0, 152, 232, 121, 119, 121, 64, 199, 140, 115, 254, 111, 43, 238, 108, 3, 82]) = d := by decide +kernel
set_option maxRecDepth 100000 in
theorem pd_any (w : World) : Rets Try.prog 40 [] w (fun v w' => ∃ h, v = .agg (iv .u64 5 h).toArray ∧ El h d ∧ Keep [] w w') := by
 have hB : Keep [] w w := Keep.refl _ _
 refine rets_of_tw Try.func40 rfl (by decide) Try.ntmps40 rfl (fun fin _ hfin => ?_)
 refine tw_seq (tw_region (ow_d (d_alloc ty28) rfl ?_))
 rintro _ w1 ⟨b1, rfl, eb1, hb1, k1, z1⟩
 have ge_b1 : w.heap.size ≤ b1 := by have := hB.size; omega
 replace hB := hB.trans k1
 clear eb1 z1
 refine ow_nil (tw_seq (tw_region (ow_d (d_bs (m := 32) (xs := [.const (.int .u8 (163)), .const (.int .u8 (120)), .const (.int .u8 (89)), .const (.int .u8 (19)), .const (.int .u8 (202)), .const (.int .u8 (77)), .const (.int .u8 (235)), .const (.int .u8 (117)), .const (.int .u8 (171)), .const (.int .u8 (216)), .const (.int .u8 (65)), .const (.int .u8 (65)), .const (.int .u8 (77)), .const (.int .u8 (10)), .const (.int .u8 (112)), .const (.int .u8 (0)), .const (.int .u8 (152)), .const (.int .u8 (232)), .const (.int .u8 (121)), .const (.int .u8 (119)), .const (.int .u8 (121)), .const (.int .u8 (64)), .const (.int .u8 (199)), .const (.int .u8 (140)), .const (.int .u8 (115)), .const (.int .u8 (254)), .const (.int .u8 (111)), .const (.int .u8 (43)), .const (.int .u8 (238)), .const (.int .u8 (108)), .const (.int .u8 (3)), .const (.int .u8 (82))]) (vs := [_, _, _, _, _, _, _, _, _, _, _, _, _, _, _, _, _, _, _, _, _, _, _, _, _, _, _, _, _, _, _, _]) Try.underlying22 ty5 (by decide) rfl rfl rfl (by simp only [List.forall_mem_cons]; exact ⟨rfl, rfl, rfl, rfl, rfl, rfl, rfl, rfl, rfl, rfl, rfl, rfl, rfl, rfl, rfl, rfl, rfl, rfl, rfl, rfl, rfl, rfl, rfl, rfl, rfl, rfl, rfl, rfl, rfl, rfl, rfl, rfl, fun v hv => by cases hv⟩) (by decide)) rfl ?_)))
 rintro v1 w2 ⟨o1, nn1, lb1, k2, z2⟩
 have gl_o1 := hB.size
 have sb_b1_o1 := fun x hx => (show x ≠ b1 from by have h1 := (o1.blk x hx).1; have h2 := hb1.lt; omega)
 replace hb1 := hb1.keep0 k2
 replace hB := hB.trans k2
 have u_o1 := o1.blk
 replace o1 : Own w2 _ _ 1 v1 32 (bv [163, 120, 89, 19, 202, 77, 235, 117, 171, 216, 65, 65, 77, 10, 112, 0, 152, 232, 121, 119, 121, 64, 199, 140, 115, 254, 111, 43, 238, 108, 3, 82]) := o1
 refine ow_d (d_call (vs := [_]) rfl (from_any _ [163, 120, 89, 19, 202, 77, 235, 117, 171, 216, 65, 65, 77, 10, 112, 0, 152, 232, 121, 119, 121, 64, 199, 140, 115, 254, 111, 43, 238, 108, 3, 82] _ (by first | assumption | exact Own.rd ‹_› | exact Rd.keep0 ‹_› hB | exact Own.rd (Own.keep0 ‹_› hB)) rfl)) rfl ?_
 rintro _ w3 ⟨hh1, rfl, E1, k3⟩
 replace hb1 := hb1.keep0 k3
 replace o1 := o1.keep0 k3
 replace hB := hB.trans k3
 refine ow_g (g_mv rfl) rfl (ow_g (g_ext (vs := [_, _]) rfl rfl) rfl ?_)
 refine ow_g (g_ext (vs := [_, _]) rfl rfl) rfl ?_
 refine ow_d (d_alloc ty28) rfl ?_
 rintro _ w4 ⟨b2, rfl, eb2, hb2, k4, z3⟩
 have ge_b2 : w.heap.size ≤ b2 := by have := hB.size; omega
 have ne_b1_b2 : b1 ≠ b2 := by have := hb1.lt; omega
 have sb_b2_o1 := fun x hx => (show x ≠ b2 from by have := (o1.blk x hx).2; omega)
 replace hb1 := hb1.keep0 k4
 replace o1 := o1.keep0 k4
 replace hB := hB.trans k4
 clear eb2 z3
 refine ow_d0 (d_sta ty28 rfl rfl rfl ivF_one hb2 rfl) ?_
 rintro _ w5 ⟨hb3, k5, z4⟩
 replace hb1 := hb1.keep k5 (fun hm => absurd (List.mem_singleton.1 hm) ne_b1_b2)
 replace o1 := o1.keep k5 (fun x hx hm => sb_b2_o1 x hx (List.mem_singleton.1 hm))
 replace hB := hB.new k5 (fun x hx => .inl ((List.mem_singleton.1 hx) ▸ ge_b2))
 clear z4
 replace hb3 : Bk w5 b2 _ [.int .u64 (hh1 0), .int .u64 (hh1 1), .int .u64 (hh1 2), .int .u64 (hh1 3), .int .u64 (hh1 4)] := hb3
 refine ow_g (g_as rfl) rfl (ow_nil (tw_seq (tw_region (ow_g (g_ldab (cs' := [_, _, _, _, _]) ag28 ty28 rfl hb3 rfl rfl) rfl ?_))))
 refine ow_d0 (d_sta ty28 rfl rfl rfl (by simp only [List.forall_mem_cons]; refine ⟨rfl, rfl, rfl, rfl, rfl, fun v hv => by cases hv⟩) hb1 rfl) ?_
 rintro _ w6 ⟨hb4, k6, z5⟩
 replace o1 := o1.keep k6 (fun x hx hm => sb_b1_o1 x hx (List.mem_singleton.1 hm))
 replace hb3 := hb3.keep k6 (fun hm => absurd (List.mem_singleton.1 hm) (Ne.symm ne_b1_b2))
 replace hB := hB.new k6 (fun x hx => .inl ((List.mem_singleton.1 hx) ▸ ge_b1))
 clear z5
 replace hb4 : Bk w6 b1 _ [.int .u64 (hh1 0), .int .u64 (hh1 1), .int .u64 (hh1 2), .int .u64 (hh1 3), .int .u64 (hh1 4)] := hb4
 refine ow_nil (tw_retc hfin Try.results40 rfl (run_loadAgg ag28 ty28 ‹_› rfl)  ?_)
 exact ⟨hh1, rfl, d_bytes ▸ E1, hB⟩
end Go.Proofs.Ytkngeapegpehpaa.W
namespace Go.Eng
open Go Go.IntWalk Go.Op
section
variable {P : Program} (w : World)
theorem run_forall (l : List Nat) (f : Nat → Sem Bool) (b : Nat → Bool) (h : ∀ i, i ∈ l → (f i).run P w = .ok (b i) w) : (do
      for i in l do
        if !(← f i) then return false
      pure true : Sem Bool).run P w = .ok (l.all b) w := by
  induction l with
  | nil => simp
  | cons i l ih =>
    have h0 := h i (by simp)
    have ih := ih (fun j hj => h j (by simp [hj]))
    simp only [List.forIn_cons, Sem.run_bind, h0, Result.andThen_ok, List.all_cons] at ih ⊢
    cases hb : b i <;> simp at ih ⊢
    exact ih
theorem run_eqarr {t e n s d : Nat} (ht : P.underlying t = some (.array n e)) (hsz : ∀ w, (sizeOf e).run P w = .ok s w) (xs ys : Array Value) (b : Nat → Bool) (h : ∀ i, i < n → (do equalIn d e (← part e xs (i * s)) (← part e ys (i * s)) : Sem Bool).run P w = .ok (b i) w) :
    (equalIn (d + 1) t (.agg xs) (.agg ys)).run P w = .ok ((List.range n).all b) w := by
  have := run_forall (P := P) w (List.range' 0 n) (fun i => do equalIn d e (← part e xs (i * s)) (← part e ys (i * s))) b (fun i hi => h i (by simpa using (List.mem_range'_1.1 hi).2))
  rw [equalIn]
  simp only [Sem.run_bind, run_underlying ht, Result.andThen_ok, hsz, Std.Legacy.Range.forIn_eq_forIn_range', Std.Legacy.Range.size, Nat.sub_zero, Nat.add_sub_cancel, Nat.div_one, List.range_eq_range'] at this ⊢
  simp only [bind_assoc] at this
  exact this
theorem run_partAgg {t off s b : Nat} {zs : List Value} {xs : Array Value} (ha : agB P t = true) (hs : Ty P t zs s b) : (part t xs off).run P w = .ok (.agg (xs.extract off (off + s))) w := by
  unfold part
  simp [run_isAgg' ha, hs.sizeOf]
theorem eqf_nil (d : Nat) (xs ys : Array Value) : (eqFields d xs ys []).run P w = .ok true w := by simp [eqFields]
theorem eqf_cons {d : Nat} {xs ys : Array Value} {f : Field} {fs : List Field} {b1 b2 : Bool} {zs : List Value} {s by_ : Nat} (hn : (f.name != "_") = true) (ha : agB P f.type = true) (hs : Ty P f.type zs s by_)
    (h1 : (equalIn d f.type (.agg (xs.extract f.offset (f.offset + s))) (.agg (ys.extract f.offset (f.offset + s)))).run P w = .ok b1 w) (h2 : (eqFields d xs ys fs).run P w = .ok b2 w) : (eqFields d xs ys (f :: fs)).run P w = .ok (b1 && b2) w := by
  have hn' : f.name ≠ "_" := by simpa using hn
  unfold eqFields
  rw [if_pos hn']
  simp only [Sem.run_bind, run_partAgg w ha hs, Result.andThen_ok, h1]
  cases b1
  · simp
  · simp [h2]
theorem run_partInt {t : TypeId} {k : IntKind} {off : Nat} {v : Value} {xs : Array Value} (he : P.underlying t = some (.int k)) (hx : xs[off]? = some v) : (part t xs off).run P w = .ok v w := by
  unfold part isAgg
  simp [run_underlying he, hx]
theorem run_eqiv {t e : TypeId} {n d : Nat} {k : IntKind} {zs : List Value} {b : Nat} (ht : P.underlying t = some (.array n e)) (he : P.underlying e = some (.int k)) (hs : Ty P e zs 1 b) (f g : Nat → Int) :
    (equalIn (d + 2) t (.agg (iv k n f).toArray) (.agg (iv k n g).toArray)).run P w = .ok ((List.range n).all fun i => f i == g i) w := by
  refine run_eqarr (s := 1) w ht (fun w => hs.sizeOf w) _ _ _ (fun i hi => ?_)
  rw [Nat.mul_one]
  have h1 : ∀ f : Nat → Int, (part e (iv k n f).toArray i).run P w = .ok (.int k (f i)) w := fun f => run_partInt w he (by rw [List.getElem?_toArray]; exact iv_get hi)
  simp only [Sem.run_bind, h1, Result.andThen_ok]
  exact run_equalIn_int w d e k k _ _ he
theorem run_eqst {t : TypeId} {d : Nat} {fs : Array Field} {xs ys : Array Value} {b : Bool} (ht : P.underlying t = some (.struct fs)) (hp : P.stoodInHeld t = false) (h : (eqFields d xs ys fs.toList).run P w = .ok b w) : (equalIn (d + 1) t (.agg xs) (.agg ys)).run P w = .ok b w := by
  have hf : P.fieldsOf t = fs := by unfold Program.fieldsOf; rw [ht]
  rw [run_equalIn_struct w d t xs ys (by rw [hf]; exact ht) hp, hf]
  exact h
end
variable {P : Program} {n : Nat} {f : Fr} {w : World} {ty : TypeId}
theorem g_eqst {t u : TypeId} {x y : Operand} {xs ys : Array Value} {b : Bool} (hg : P.eqGuardType P.depth t = false) (hx : f.ev x = some (.agg xs)) (hy : f.ev y = some (.agg ys))
    (h : (equalIn 10000 t (.agg xs) (.agg ys)).run P w = .ok b w) : Gives P n f w (.binOp .eql t x y u) ty (.bool b) w :=
  run_bin hx hy (fun x y => run_eqGuard_agg w _ _ _ _ _ _ hg) (by rw [run_eql_struct, h]; rfl)
theorem g_max {x y : Operand} {k k' : IntKind} {a b : Int} {ts : Array TypeId} (hx : f.ev x = some (.int k a)) (hy : f.ev y = some (.int k' b)) : Gives P n f w (.call { callee := .builtin .max, args := #[x, y], argTypes := ts }) ty (.int k (if b > a then b else a)) w := by
  intro c hc dst pos aft g
  simp [execOp, resolve, invoke, builtin, hc.ev hx, hc.ev hy, run_max_int2]
end Go.Eng
namespace Go.Proofs.Ytkngeapegpehpaa.W
open Go Go.Eng Go.Byt
set_option linter.unusedVariables false
set_option linter.unusedSimpArgs false
open Go.Fld Go.Ed
theorem iv5_ext (f : Nat → Int) : (iv .u64 5 f).toArray.extract 0 (0 + 5) = (iv .u64 5 f).toArray := by rw [List.extract_toArray]; rfl
theorem iv20_ext (f : Nat → Int) : (iv .u64 20 f).toArray.extract 0 (0 + 5) = (iv .u64 5 f).toArray ∧ (iv .u64 20 f).toArray.extract 5 (5 + 5) = (iv .u64 5 (fun i => f (5 + i))).toArray ∧ (iv .u64 20 f).toArray.extract 10 (10 + 5) = (iv .u64 5 (fun i => f (10 + i))).toArray ∧ (iv .u64 20 f).toArray.extract 15 (15 + 5) = (iv .u64 5 (fun i => f (15 + i))).toArray := by
  refine ⟨?_, ?_, ?_, ?_⟩ <;> (rw [List.extract_toArray]; rfl)
def eq5 (f g : Nat → Int) : Bool := (List.range 5).all fun i => f i == g i
theorem num_eq (w : World) (d : Nat) (f g : Nat → Int) : (Op.equalIn (d + 3) 28 (.agg (iv .u64 5 f).toArray) (.agg (iv .u64 5 g).toArray)).run Try.prog w = .ok (eq5 f g && true) w :=
  run_eqst w Try.underlying28 (by kernel_rfl) (eqf_cons w rfl ag26 ty26 (by rw [show (0 : Nat) + 5 = 5 from rfl]; exact (iv5_ext f ▸ iv5_ext g ▸ run_eqiv w (d := d) Try.underlying26 Try.underlying24 ty24 f g)) (eqf_nil w (d + 2) (iv .u64 5 f).toArray (iv .u64 5 g).toArray))
theorem pt_eq (w : World) (f g : Nat → Int) : (Op.equalIn 10000 30 (.agg (iv .u64 20 f).toArray) (.agg (iv .u64 20 g).toArray)).run Try.prog w = .ok ((eq5 f g && true) && ((eq5 (fun i => f (5 + i)) (fun i => g (5 + i)) && true) && ((eq5 (fun i => f (10 + i)) (fun i => g (10 + i)) && true) && ((eq5 (fun i => f (15 + i)) (fun i => g (15 + i)) && true) && true)))) w := by
  obtain ⟨a1, a2, a3, a4⟩ := iv20_ext f
  obtain ⟨b1, b2, b3, b4⟩ := iv20_ext g
  refine run_eqst w Try.underlying30 (by kernel_rfl) (eqf_cons w rfl ag28 ty28 ?_ (eqf_cons w rfl ag28 ty28 ?_ (eqf_cons w rfl ag28 ty28 ?_ (eqf_cons w rfl ag28 ty28 ?_ (eqf_nil w 9999 (iv .u64 20 f).toArray (iv .u64 20 g).toArray)))))
  · exact a1 ▸ b1 ▸ num_eq w 9996 _ _
  · exact a2 ▸ b2 ▸ num_eq w 9996 _ _
  · exact a3 ▸ b3 ▸ num_eq w 9996 _ _
  · exact a4 ▸ b4 ▸ num_eq w 9996 _ _
theorem eq5_zero {f : Nat → Int} {g : Nat → Int} {a : Fp} (h : eq5 f (fun _ => 0) = true) (hg : El g a) (h0 : g 0 = f 0 ∧ g 1 = f 1 ∧ g 2 = f 2 ∧ g 3 = f 3 ∧ g 4 = f 4) : a = 0 := by
  have e := fun i hi => eq_of_beq (List.all_eq_true.1 h i (List.mem_range.2 hi))
  obtain ⟨g0, g1, g2, g3, g4⟩ := h0
  obtain ⟨_, _, _, _, _, hv⟩ := hg
  rw [← hv]; unfold val5
  rw [g0, g1, g2, g3, g4, e 0 (by decide), e 1 (by decide), e 2 (by decide), e 3 (by decide), e 4 (by decide)]
  decide
theorem full_ne {p : Nat → Int} {X Y Z T : Fp} (h : PtEl p X Y Z T) (hz : Z ≠ 0) : ((eq5 p (fun _ => 0) && true) && ((eq5 (fun i => p (5 + i)) (fun _ => 0) && true) && ((eq5 (fun i => p (10 + i)) (fun _ => 0) && true) && ((eq5 (fun i => p (15 + i)) (fun _ => 0) && true) && true)))) = false := by
  cases he : eq5 (fun i => p (10 + i)) (fun _ => 0) with
  | true => exact absurd (eq5_zero he h.2.2.1 ⟨rfl, rfl, rfl, rfl, rfl⟩) hz
  | false => simp
set_option maxRecDepth 100000 in
theorem full_any (p : Nat → Int) (X Y Z T : Fp) (hp : PtEl p X Y Z T) (hz : Z ≠ 0) (w : World) : Rets Try.prog 54 [.agg (iv .u64 20 p).toArray] w (fun v w' => ∃ r, v = .agg (iv .u64 20 r).toArray ∧ PtEl r X Y Z T ∧ Keep [] w w') := by
 have hB : Keep [] w w := Keep.refl _ _
 refine rets_of_tw Try.func54 rfl (by decide) Try.ntmps54 rfl (fun fin _ hfin => ?_)
 refine tw_seq (tw_region (ow_d (d_box (cs := [.int .u64 (p 0), .int .u64 (p 1), .int .u64 (p 2), .int .u64 (p 3), .int .u64 (p 4), .int .u64 (p 5), .int .u64 (p 6), .int .u64 (p 7), .int .u64 (p 8), .int .u64 (p 9), .int .u64 (p 10), .int .u64 (p 11), .int .u64 (p 12), .int .u64 (p 13), .int .u64 (p 14), .int .u64 (p 15), .int .u64 (p 16), .int .u64 (p 17), .int .u64 (p 18), .int .u64 (p 19)]) rfl rfl) rfl ?_))
 rintro _ w1 ⟨b1, rfl, eb1, hb1, k1, z1⟩
 have ge_b1 : w.heap.size ≤ b1 := by have := hB.size; omega
 replace hB := hB.trans k1
 clear eb1 z1
 refine ow_d (d_alloc ty30) rfl ?_
 rintro _ w2 ⟨b2, rfl, eb2, hb2, k2, z2⟩
 have ge_b2 : w.heap.size ≤ b2 := by have := hB.size; omega
 have ne_b1_b2 : b1 ≠ b2 := by have := hb1.lt; omega
 replace hb1 := hb1.keep0 k2
 replace hB := hB.trans k2
 clear eb2 z2
 refine ow_nil (tw_seq (tw_seq (tw_region (ow_g (g_ldab (cs' := [_, _, _, _, _, _, _, _, _, _, _, _, _, _, _, _, _, _, _, _]) ag30 ty30 rfl hb1 rfl rfl) rfl ?_))))
 refine ow_g (g_bld (idx := []) (xs := []) (vs := []) (css := []) (out := [_, _, _, _, _, _, _, _, _, _, _, _, _, _, _, _, _, _, _, _]) pl30 ty30 rfl rfl trivial rfl rfl) rfl ?_
 refine ow_g (g_eqst (by kernel_rfl) rfl rfl (pt_eq _ p (fun _ => 0))) rfl ?_
 refine ow_nil (tw_condF rfl (full_ne hp hz) ?_)
 refine tw_skip (tw_seq (tw_region (ow_g (g_ldab (cs' := [_, _, _, _, _, _, _, _, _, _, _, _, _, _, _, _, _, _, _, _]) ag30 ty30 rfl hb1 rfl rfl) rfl ?_)))
 refine ow_d0 (d_sta ty30 rfl rfl rfl (by simp only [List.forall_mem_cons]; refine ⟨rfl, rfl, rfl, rfl, rfl, rfl, rfl, rfl, rfl, rfl, rfl, rfl, rfl, rfl, rfl, rfl, rfl, rfl, rfl, rfl, fun v hv => by cases hv⟩) hb2 rfl) ?_
 rintro _ w3 ⟨hb3, k3, z3⟩
 replace hb1 := hb1.keep k3 (fun hm => absurd (List.mem_singleton.1 hm) ne_b1_b2)
 replace hB := hB.new k3 (fun x hx => .inl ((List.mem_singleton.1 hx) ▸ ge_b2))
 clear z3
 replace hb3 : Bk w3 b2 _ [.int .u64 (p 0), .int .u64 (p 1), .int .u64 (p 2), .int .u64 (p 3), .int .u64 (p 4), .int .u64 (p 5), .int .u64 (p 6), .int .u64 (p 7), .int .u64 (p 8), .int .u64 (p 9), .int .u64 (p 10), .int .u64 (p 11), .int .u64 (p 12), .int .u64 (p 13), .int .u64 (p 14), .int .u64 (p 15), .int .u64 (p 16), .int .u64 (p 17), .int .u64 (p 18), .int .u64 (p 19)] := hb3
 refine ow_nil (tw_retc hfin Try.results54 rfl (run_loadAgg ag30 ty30 ‹_› rfl)  ?_)
 exact ⟨p, rfl, ⟨hp.1, hp.2.1, hp.2.2.1, hp.2.2.2⟩, hB⟩
set_option maxRecDepth 100000 in
theorem full_zero (w : World) : Rets Try.prog 54 [.agg (iv .u64 20 (fun _ => 0)).toArray] w (fun v w' => ∃ r, v = .agg (iv .u64 20 r).toArray ∧ PtEl r 0 (fp 1) (fp 1) (0 * fp 1) ∧ Keep [] w w') := by
 have hB : Keep [] w w := Keep.refl _ _
 refine rets_of_tw Try.func54 rfl (by decide) Try.ntmps54 rfl (fun fin _ hfin => ?_)
 refine tw_seq (tw_region (ow_d (d_box (cs := [.int .u64 ((fun _ => 0) 0), .int .u64 ((fun _ => 0) 1), .int .u64 ((fun _ => 0) 2), .int .u64 ((fun _ => 0) 3), .int .u64 ((fun _ => 0) 4), .int .u64 ((fun _ => 0) 5), .int .u64 ((fun _ => 0) 6), .int .u64 ((fun _ => 0) 7), .int .u64 ((fun _ => 0) 8), .int .u64 ((fun _ => 0) 9), .int .u64 ((fun _ => 0) 10), .int .u64 ((fun _ => 0) 11), .int .u64 ((fun _ => 0) 12), .int .u64 ((fun _ => 0) 13), .int .u64 ((fun _ => 0) 14), .int .u64 ((fun _ => 0) 15), .int .u64 ((fun _ => 0) 16), .int .u64 ((fun _ => 0) 17), .int .u64 ((fun _ => 0) 18), .int .u64 ((fun _ => 0) 19)]) rfl rfl) rfl ?_))
 rintro _ w1 ⟨b1, rfl, eb1, hb1, k1, z1⟩
 have ge_b1 : w.heap.size ≤ b1 := by have := hB.size; omega
 replace hB := hB.trans k1
 clear eb1 z1
 refine ow_d (d_alloc ty30) rfl ?_
 rintro _ w2 ⟨b2, rfl, eb2, hb2, k2, z2⟩
 have ge_b2 : w.heap.size ≤ b2 := by have := hB.size; omega
 have ne_b1_b2 : b1 ≠ b2 := by have := hb1.lt; omega
 replace hb1 := hb1.keep0 k2
 replace hB := hB.trans k2
 clear eb2 z2
 refine ow_nil (tw_seq (tw_seq (tw_region (ow_g (g_ldab (cs' := [_, _, _, _, _, _, _, _, _, _, _, _, _, _, _, _, _, _, _, _]) ag30 ty30 rfl hb1 rfl rfl) rfl ?_))))
 refine ow_g (g_bld (idx := []) (xs := []) (vs := []) (css := []) (out := [_, _, _, _, _, _, _, _, _, _, _, _, _, _, _, _, _, _, _, _]) pl30 ty30 rfl rfl trivial rfl rfl) rfl ?_
 refine ow_g (g_eqst (by kernel_rfl) rfl rfl (pt_eq _ (fun _ => 0) (fun _ => 0))) rfl ?_
 refine ow_nil (tw_condT rfl (by decide) ?_)
 refine tw_seq (tw_region (ow_g (g_bld (idx := []) (xs := []) (vs := []) (css := []) (out := [_, _, _, _, _]) pl28 ty28 rfl rfl trivial rfl rfl) rfl ?_))
 refine ow_d (d_call (vs := [_]) rfl (Small_any _ (by decide) _)) rfl ?_
 rintro _ w3 ⟨hh1, rfl, E1, k3⟩
 replace hb1 := hb1.keep0 k3
 replace hb2 := hb2.keep0 k3
 replace hB := hB.trans k3
 refine ow_d (d_call (vs := [_, _]) rfl (affine_any _ _ _ _ el_zero E1 _)) rfl ?_
 rintro _ w4 ⟨hh2, rfl, E2, k4⟩
 replace hb1 := hb1.keep0 k4
 replace hb2 := hb2.keep0 k4
 replace hB := hB.trans k4
 refine ow_d0 (d_sta ty30 rfl rfl rfl ivF_one hb2 rfl) ?_
 rintro _ w5 ⟨hb3, k5, z3⟩
 replace hb1 := hb1.keep k5 (fun hm => absurd (List.mem_singleton.1 hm) ne_b1_b2)
 replace hB := hB.new k5 (fun x hx => .inl ((List.mem_singleton.1 hx) ▸ ge_b2))
 clear z3
 replace hb3 : Bk w5 b2 _ [.int .u64 (hh2 0), .int .u64 (hh2 1), .int .u64 (hh2 2), .int .u64 (hh2 3), .int .u64 (hh2 4), .int .u64 (hh2 5), .int .u64 (hh2 6), .int .u64 (hh2 7), .int .u64 (hh2 8), .int .u64 (hh2 9), .int .u64 (hh2 10), .int .u64 (hh2 11), .int .u64 (hh2 12), .int .u64 (hh2 13), .int .u64 (hh2 14), .int .u64 (hh2 15), .int .u64 (hh2 16), .int .u64 (hh2 17), .int .u64 (hh2 18), .int .u64 (hh2 19)] := hb3
 refine ow_nil (tw_retc hfin Try.results54 rfl (run_loadAgg ag30 ty30 ‹_› rfl)  ?_)
 exact ⟨hh2, rfl, ⟨E2.1, E2.2.1, E2.2.2.1, E2.2.2.2⟩, hB⟩
end Go.Proofs.Ytkngeapegpehpaa.W
namespace Go.Proofs.Ytkngeapegpehpaa.W
open Go Go.Eng Go.Byt
set_option linter.unusedVariables false
set_option linter.unusedSimpArgs false
open Go.Fld Go.Ed
set_option maxRecDepth 100000 in
set_option maxHeartbeats 1000000 in
theorem Pzero_any (w : World) : Rets Try.prog 15 [] w (fun v w' => ∃ r, v = .agg (iv .u64 20 r).toArray ∧ PtEl r 0 (fp 1) (fp 1) (0 * fp 1) ∧ Keep [] w w') := by
 have hB : Keep [] w w := Keep.refl _ _
 refine rets_of_tw Try.func15 rfl (by decide) Try.ntmps15 rfl (fun fin _ hfin => ?_)
 refine tw_seq (tw_region (ow_d (d_alloc ty30) rfl ?_))
 rintro _ w1 ⟨b1, rfl, eb1, hb1, k1, z1⟩
 have ge_b1 : w.heap.size ≤ b1 := by have := hB.size; omega
 replace hB := hB.trans k1
 clear eb1 z1
 refine ow_nil (tw_seq (tw_region (ow_g (g_bld (idx := []) (xs := []) (vs := []) (css := []) (out := [_, _, _, _, _, _, _, _, _, _, _, _, _, _, _, _, _, _, _, _]) pl30 ty30 rfl rfl trivial rfl rfl) rfl ?_)))
 refine ow_d (d_call (vs := [_]) rfl (full_zero _)) rfl ?_
 rintro _ w2 ⟨hh1, rfl, E1, k2⟩
 replace hb1 := hb1.keep0 k2
 replace hB := hB.trans k2
 refine ow_d0 (d_sta ty30 rfl rfl rfl ivF_one hb1 rfl) ?_
 rintro _ w3 ⟨hb2, k3, z2⟩
 replace hB := hB.new k3 (fun x hx => .inl ((List.mem_singleton.1 hx) ▸ ge_b1))
 clear z2
 replace hb2 : Bk w3 b1 _ [.int .u64 (hh1 0), .int .u64 (hh1 1), .int .u64 (hh1 2), .int .u64 (hh1 3), .int .u64 (hh1 4), .int .u64 (hh1 5), .int .u64 (hh1 6), .int .u64 (hh1 7), .int .u64 (hh1 8), .int .u64 (hh1 9), .int .u64 (hh1 10), .int .u64 (hh1 11), .int .u64 (hh1 12), .int .u64 (hh1 13), .int .u64 (hh1 14), .int .u64 (hh1 15), .int .u64 (hh1 16), .int .u64 (hh1 17), .int .u64 (hh1 18), .int .u64 (hh1 19)] := hb2
 refine ow_nil (tw_retc hfin Try.results15 rfl (run_loadAgg ag30 ty30 ‹_› rfl)  ?_)
 exact ⟨hh1, rfl, ⟨E1.1, E1.2.1, E1.2.2.1, E1.2.2.2⟩, hB⟩
end Go.Proofs.Ytkngeapegpehpaa.W
namespace Go.Proofs.Ytkngeapegpehpaa.W
open Go Go.Eng Go.Byt
set_option linter.unusedVariables false
set_option linter.unusedSimpArgs false
open Go.Fld Go.Ed
theorem bv_setB {xs : List UInt8} {i : Nat} {b : Int} (h : In b 0 255) : (bv xs).set i (.int .u8 b) = bv (xs.set i (UInt8.ofNat b.toNat)) := by
  unfold In at h
  have e : (((UInt8.ofNat b.toNat).toNat : Nat) : Int) = b := by simp; omega
  unfold bv
  rw [List.map_set, e]
def encB (x y : Fp) : List UInt8 := (fpB y).set 31 (UInt8.ofNat (bits .or .u8 (gb (fpB y) 31) (IntKind.u8.wrap (gb (fpB x) 0 * 128))).toNat)
set_option maxRecDepth 100000 in
set_option maxHeartbeats 1000000 in
theorem Pencode_any (p : Nat → Int) (X Y Z T : Fp) (hp : PtEl p X Y Z T) (hz : Z ≠ 0) (w : World) : Rets Try.prog 16 [.agg (iv .u64 20 p).toArray] w (fun v w' => OwnB w' w.heap.size v (encB (X * inv Z) (Y * inv Z)) ∧ Keep [] w w') := by
 have hB : Keep [] w w := Keep.refl _ _
 refine rets_of_tw Try.func16 rfl (by decide) Try.ntmps16 rfl (fun fin _ hfin => ?_)
 refine tw_seq (tw_region (ow_d (d_box (cs := [.int .u64 (p 0), .int .u64 (p 1), .int .u64 (p 2), .int .u64 (p 3), .int .u64 (p 4), .int .u64 (p 5), .int .u64 (p 6), .int .u64 (p 7), .int .u64 (p 8), .int .u64 (p 9), .int .u64 (p 10), .int .u64 (p 11), .int .u64 (p 12), .int .u64 (p 13), .int .u64 (p 14), .int .u64 (p 15), .int .u64 (p 16), .int .u64 (p 17), .int .u64 (p 18), .int .u64 (p 19)]) rfl rfl) rfl ?_))
 rintro _ w1 ⟨b1, rfl, eb1, hb1, k1, z1⟩
 have ge_b1 : w.heap.size ≤ b1 := by have := hB.size; omega
 replace hB := hB.trans k1
 clear eb1 z1
 refine ow_g (g_as rfl) rfl (ow_nil (tw_seq (tw_region (ow_g (g_ldab (cs' := [_, _, _, _, _, _, _, _, _, _, _, _, _, _, _, _, _, _, _, _]) ag30 ty30 rfl hb1 rfl rfl) rfl ?_))))
 refine ow_d (d_call (vs := [_]) rfl (full_any _ _ _ _ _ ⟨hp.1, hp.2.1, hp.2.2.1, hp.2.2.2⟩ hz _)) rfl ?_
 rintro _ w2 ⟨hh1, rfl, E1, k2⟩
 replace hb1 := hb1.keep0 k2
 replace hB := hB.trans k2
 refine ow_d0 (d_sta ty30 rfl rfl rfl ivF_one hb1 rfl) ?_
 rintro _ w3 ⟨hb2, k3, z2⟩
 replace hB := hB.new k3 (fun x hx => .inl ((List.mem_singleton.1 hx) ▸ ge_b1))
 clear z2
 replace hb2 : Bk w3 b1 _ [.int .u64 (hh1 0), .int .u64 (hh1 1), .int .u64 (hh1 2), .int .u64 (hh1 3), .int .u64 (hh1 4), .int .u64 (hh1 5), .int .u64 (hh1 6), .int .u64 (hh1 7), .int .u64 (hh1 8), .int .u64 (hh1 9), .int .u64 (hh1 10), .int .u64 (hh1 11), .int .u64 (hh1 12), .int .u64 (hh1 13), .int .u64 (hh1 14), .int .u64 (hh1 15), .int .u64 (hh1 16), .int .u64 (hh1 17), .int .u64 (hh1 18), .int .u64 (hh1 19)] := hb2
 refine ow_nil (tw_seq (tw_region (ow_g (g_fa Try.underlying30 rfl ty28 (by decide) rfl) rfl ?_)))
 refine ow_g (g_ldab (cs' := [_, _, _, _, _]) ag28 ty28 rfl hb2 rfl rfl) rfl ?_
 refine ow_d (d_call (vs := [_]) rfl (ninverse_any _ _ E1.2.2.1 _)) rfl ?_
 rintro _ w4 ⟨hh2, rfl, E2, k4⟩
 replace hb2 := hb2.keep0 k4
 replace hB := hB.trans k4
 refine ow_d (d_alloc ty28) rfl ?_
 rintro _ w5 ⟨b2, rfl, eb2, hb3, k5, z3⟩
 have ge_b2 : w.heap.size ≤ b2 := by have := hB.size; omega
 have ne_b1_b2 : b1 ≠ b2 := by have := hb2.lt; omega
 replace hb2 := hb2.keep0 k5
 replace hB := hB.trans k5
 clear eb2 z3
 refine ow_d0 (d_sta ty28 rfl rfl rfl ivF_one hb3 rfl) ?_
 rintro _ w6 ⟨hb4, k6, z4⟩
 replace hb2 := hb2.keep k6 (fun hm => absurd (List.mem_singleton.1 hm) ne_b1_b2)
 replace hB := hB.new k6 (fun x hx => .inl ((List.mem_singleton.1 hx) ▸ ge_b2))
 clear z4
 replace hb4 : Bk w6 b2 _ [.int .u64 (hh2 0), .int .u64 (hh2 1), .int .u64 (hh2 2), .int .u64 (hh2 3), .int .u64 (hh2 4)] := hb4
 refine ow_nil (tw_seq (tw_region (ow_g (g_fa Try.underlying30 rfl ty28 (by decide) rfl) rfl ?_)))
 refine ow_g (g_ldab (cs' := [_, _, _, _, _]) ag28 ty28 rfl hb2 rfl rfl) rfl ?_
 refine ow_g (g_ldab (cs' := [_, _, _, _, _]) ag28 ty28 rfl hb4 rfl rfl) rfl ?_
 refine ow_d (d_call (vs := [_, _]) rfl (ntimes_any _ _ _ _ E1.2.1 E2 _)) rfl ?_
 rintro _ w7 ⟨hh3, rfl, E3, k7⟩
 replace hb2 := hb2.keep0 k7
 replace hb4 := hb4.keep0 k7
 replace hB := hB.trans k7
 refine ow_d (d_call (vs := [_]) rfl (nbytes_any _ _ E3 _)) rfl ?_
 rintro v1 w8 ⟨o1, k8⟩
 have gl_o1 := hB.size
 have sb_b1_o1 := fun x hx => (show x ≠ b1 from by have h1 := (o1.blk x hx).1; have h2 := hb2.lt; omega)
 have sb_b2_o1 := fun x hx => (show x ≠ b2 from by have h1 := (o1.blk x hx).1; have h2 := hb4.lt; omega)
 replace hb2 := hb2.keep0 k8
 replace hb4 := hb4.keep0 k8
 replace hB := hB.trans k8
 have u_o1 := o1.blk
 have lnv1 := fpB_length (Y * (inv Z))
 refine ow_g (g_as rfl) rfl (ow_nil (tw_keep [(1, _), (3, _), (4, _)] ⟨rfl, rfl, rfl, trivial⟩ ?_))
 refine tw_seq (tw_plan 12 [0, 1, 2, 3, 4, 5, 6, 7, 8, 9, 10, 11] [6, 7] [] mixed [(4, _), (1, _), (3, _)] ⟨rfl, rfl, rfl, trivial⟩ (by decide +kernel) rfl (fun w9 k9 => ?_))
 replace hb2 := hb2.keep0 k9
 replace hb4 := hb4.keep0 k9
 replace o1 := o1.keep0 k9
 replace hB := hB.trans k9
 refine pw_g [(4, _)] rfl rfl ⟨rfl, trivial⟩ rfl (fun W' kk => g_mv rfl) ?_
 refine pw_g [(15, _)] rfl rfl ⟨rfl, trivial⟩ rfl (fun W' kk => g_ix Try.underlying22 ty5 rfl (by first | exact Rd.keep0 ‹_› kk | exact Rd.keep0 (Own.rd ‹_›) kk | exact Rd.keep0 (Rd.keep0 ‹_› hB) kk | exact Rd.keep0 (Own.rd (Own.keep0 ‹_› hB)) kk) rfl (by omega)) ?_
 refine pw_g [(16, _)] rfl rfl ⟨rfl, trivial⟩ rfl (fun W' kk => g_ldB sc5 rfl (by first | exact Rd.keep0 ‹_› kk | exact Rd.keep0 (Own.rd ‹_›) kk | exact Rd.keep0 (Rd.keep0 ‹_› hB) kk | exact Rd.keep0 (Own.rd (Own.keep0 ‹_› hB)) kk) (by omega)) ?_
 refine pw_g [(1, _)] rfl rfl ⟨rfl, trivial⟩ rfl (fun W' kk => g_fa Try.underlying30 rfl ty28 (by decide) rfl) ?_
 refine pw_g [(18, _)] rfl rfl ⟨rfl, trivial⟩ rfl (fun W' kk => g_ldab (cs' := [_, _, _, _, _]) ag28 ty28 rfl (Bk.keep0 hb2 kk) rfl rfl) ?_
 refine pw_g [(3, _)] rfl rfl ⟨rfl, trivial⟩ rfl (fun W' kk => g_ldab (cs' := [_, _, _, _, _]) ag28 ty28 rfl (Bk.keep0 hb4 kk) rfl rfl) ?_
 refine pw_d [(19, _), (20, _)] rfl rfl ⟨rfl, rfl, trivial⟩ rfl (d_call (vs := [_, _]) rfl (ntimes_any _ _ _ _ E1.1 E2 _)) ?_
 rintro _ w10 ⟨hh4, rfl, E4, k10⟩
 refine ⟨k10, ?_⟩
 replace hb2 := hb2.keep0 k10
 replace hb4 := hb4.keep0 k10
 replace o1 := o1.keep0 k10
 replace hB := hB.trans k10
 refine pw_d [(21, _)] rfl rfl ⟨rfl, trivial⟩ rfl (d_call (vs := [_]) rfl (nbytes_any _ _ E4 _)) ?_
 rintro v2 w11 ⟨o2, k11⟩
 refine ⟨k11, ?_⟩
 have gl_o2 := hB.size
 have sb_b1_o2 := fun x hx => (show x ≠ b1 from by have h1 := (o2.blk x hx).1; have h2 := hb2.lt; omega)
 have sb_b2_o2 := fun x hx => (show x ≠ b2 from by have h1 := (o2.blk x hx).1; have h2 := hb4.lt; omega)
 replace hb2 := hb2.keep0 k11
 replace hb4 := hb4.keep0 k11
 replace o1 := o1.keep0 k11
 replace hB := hB.trans k11
 have u_o2 := o2.blk
 have lnv2 := fpB_length (X * (inv Z))
 refine pw_g [(22, _)] rfl rfl ⟨rfl, trivial⟩ rfl (fun W' kk => g_ix Try.underlying22 ty5 rfl (by first | exact Rd.keep0 ‹_› kk | exact Rd.keep0 (Own.rd ‹_›) kk | exact Rd.keep0 (Rd.keep0 ‹_› hB) kk | exact Rd.keep0 (Own.rd (Own.keep0 ‹_› hB)) kk) rfl (by omega)) ?_
 refine pw_g [(23, _)] rfl rfl ⟨rfl, trivial⟩ rfl (fun W' kk => g_ldB sc5 rfl (by first | exact Rd.keep0 ‹_› kk | exact Rd.keep0 (Own.rd ‹_›) kk | exact Rd.keep0 (Rd.keep0 ‹_› hB) kk | exact Rd.keep0 (Own.rd (Own.keep0 ‹_› hB)) kk) (by omega)) ?_
 refine pw_g [(24, _)] rfl rfl ⟨rfl, trivial⟩ rfl (fun W' kk => g_shlc (m := 128) rfl rfl (by decide) (by decide)) ?_
 refine pw_g [(17, _), (25, _)] rfl rfl ⟨rfl, rfl, trivial⟩ rfl (fun W' kk => g_or rfl rfl) ?_
 refine pw_nil ?_
 refine ow_g (g_ix Try.underlying22 ty5 rfl (by first | assumption | exact Own.rd ‹_› | exact Rd.keep0 ‹_› hB | exact Own.rd (Own.keep0 ‹_› hB)) rfl (by omega)) rfl ?_
 refine ow_d0 (d_sto (u := .int .u8 _) ty5 rfl rfl rfl o1 (by rw [bv_length, fpB_length]; decide)) ?_
 rintro _ w99 ⟨ow2, k99, z99⟩
 replace hB := hB.new k99 (fun x hx => .inl (Nat.le_trans gl_o1 (o1.blk x hx).1))
 rw [bv_setB (or_in (k := .u8) rfl rfl)] at ow2
 refine ow_nil (tw_keep [(4, _)] ⟨rfl, trivial⟩ ?_)
 refine tw_seq (tw_region (ow_g (g_mv rfl) rfl (ow_g (g_as rfl) rfl (ow_nil (tw_ret1 hfin Try.results16 rfl ?_)))))
 exact ⟨(by unfold OwnB encB; rw [List.length_set]; exact ow2.lo gl_o1), hB⟩
end Go.Proofs.Ytkngeapegpehpaa.W
namespace Go.Proofs.Ytkngeapegpehpaa.W
open Go Go.Eng Go.Byt
set_option linter.unusedVariables false
set_option linter.unusedSimpArgs false
theorem eqb_len {xs ys : List UInt8} (h : (xs.length : Int) ≠ ys.length) : decide (xs = ys) = false := decide_eq_false (fun e => h (by rw [e]))
theorem eqb_el {xs ys : List UInt8} {i : Int} (h : gb xs i ≠ gb ys i) : decide (xs = ys) = false := decide_eq_false (fun e => h (by rw [e]))
theorem eqb_all {xs ys : List UInt8} {i : Int} (hl : ¬ (xs.length : Int) ≠ ys.length) (h : ∀ j : Nat, (j : Int) < i → xs.getD j 0 = ys.getD j 0) (hi : ¬ i < xs.length) : decide (xs = ys) = true := by
  refine decide_eq_true (List.ext_getElem (by omega) (fun j h1 h2 => ?_))
  have := h j (by omega)
  rw [List.getD_eq_getElem?_getD, List.getD_eq_getElem?_getD, List.getElem?_eq_getElem h1, List.getElem?_eq_getElem h2] at this
  exact this
theorem eqb_step {xs ys : List UInt8} {i : Int} (h0 : 0 ≤ i) (h : ∀ j : Nat, (j : Int) < i → xs.getD j 0 = ys.getD j 0) (he : ¬ gb xs i ≠ gb ys i) : ∀ j : Nat, (j : Int) < i + 1 → xs.getD j 0 = ys.getD j 0 := by
  intro j hj
  by_cases hji : (j : Int) < i
  · exact h j hji
  · have e : i.toNat = j := by omega
    have he := Decidable.of_not_not he
    unfold gb at he; rw [e] at he
    exact UInt8.toNat_inj.1 (by omega)
set_option maxRecDepth 100000 in
set_option maxHeartbeats 1000000 in
theorem equal_any (u v : Value) (xs ys : List UInt8) (w : World) (hu : RdB w u xs) (hv : RdB w v ys) : Rets Try.prog 34 [u, v] w (fun r w' => r = .bool (decide (xs = ys)) ∧ Keep [] w w') := by
  have hB : Keep [] w w := Keep.refl _ _
  have hle := hu.le
  refine rets_of_tw Try.func34 rfl (by decide) Try.ntmps34 rfl (fun fin _ hfin => ?_)
  refine tw_seq ?_
  refine tw_region ?_
  refine ow_g (g_as rfl) rfl ?_
  refine ow_nil ?_
  refine tw_seq ?_
  refine tw_seq ?_
  refine tw_region ?_
  refine ow_g (g_mv rfl) rfl ?_
  refine ow_g (g_len Try.underlying22 rfl (by first | assumption | exact Own.rd (by assumption) | exact Rd.keep0 (by assumption) hB | exact Own.rd (Own.keep0 (by assumption) hB))) rfl ?_
  refine ow_g (g_mv rfl) rfl ?_
  refine ow_g (g_len Try.underlying22 rfl (by first | assumption | exact Own.rd (by assumption) | exact Rd.keep0 (by assumption) hB | exact Own.rd (Own.keep0 (by assumption) hB))) rfl ?_
  refine ow_g (g_ne rfl rfl) rfl ?_
  refine ow_nil ?_
  refine tw_if rfl (fun hc1 => ?_) (fun hc1 => ?_)
  · -- yes
    refine tw_seq ?_
    refine tw_region ?_
    refine ow_g (g_as rfl) rfl ?_
    refine ow_nil ?_
    refine tw_ret1 hfin Try.results34 rfl ?_
    first
    | (exact ⟨by rw [eqb_len hc1], hB⟩)
    | (exact ⟨by rw [eqb_el hc1], hB⟩)
    | (exact ⟨by rw [eqb_all hc1 hall hc1], hB⟩)
  · -- no
    refine tw_skip ?_
    refine tw_seq ?_
    refine tw_seq ?_
    refine tw_region ?_
    refine ow_g (g_mv rfl) rfl ?_
    refine ow_g (g_len Try.underlying22 rfl (by first | assumption | exact Own.rd (by assumption) | exact Rd.keep0 (by assumption) hB | exact Own.rd (Own.keep0 (by assumption) hB))) rfl ?_
    refine ow_g (g_mv rfl) rfl ?_
    refine ow_nil ?_
    refine tw_block ?_
    refine tw_loop (Γ := Int) (fun i => [(0, u), (1, v), (12, .int .i64 (xs.length : Int)), (13, .int .i64 i)]) (fun i W => 0 ≤ i ∧ i ≤ xs.length ∧ (∀ j : Nat, (j : Int) < i → xs.getD j 0 = ys.getD j 0) ∧ Keep [] w W) (fun i => (xs.length - i).toNat) 0 ⟨rfl, rfl, rfl, rfl, trivial⟩ (⟨by decide, by omega, fun j h => by omega, hB⟩) ?_
    rintro i w1 ⟨hi0, hi1, hall, hB⟩
    refine tw_keep [(0, u), (1, v), (12, .int .i64 (xs.length : Int)), (13, .int .i64 i)] ⟨rfl, rfl, rfl, rfl, trivial⟩ ?_
    refine tw_seq ?_
    refine tw_region ?_
    refine ow_g (g_lt rfl rfl) rfl ?_
    refine ow_nil ?_
    refine tw_seq ?_
    refine tw_if rfl (fun hc2 => ?_) (fun hc2 => ?_)
    · -- yes
      refine tw_skip ?_
      refine tw_seq ?_
      refine tw_block ?_
      refine tw_seq ?_
      refine tw_region ?_
      refine ow_g (g_mv rfl) rfl ?_
      refine ow_g (g_as rfl) rfl ?_
      refine ow_nil ?_
      refine tw_seq ?_
      refine tw_stillA mixed (by decide +kernel) (fun w2 k1 => ?_)
      have z_k1 := k1.size
      replace hB := hB.trans k1
      refine sw_g (g_mv rfl) rfl ?_
      refine sw_g (g_mv rfl) rfl ?_
      refine sw_g (g_ix Try.underlying22 ty5 rfl (by first | assumption | exact Own.rd (by assumption) | exact Rd.keep0 (by assumption) hB | exact Own.rd (Own.keep0 (by assumption) hB)) rfl (by omega)) rfl ?_
      refine sw_g (g_ldB sc5 rfl (by first | assumption | exact Own.rd (by assumption) | exact Rd.keep0 (by assumption) hB | exact Own.rd (Own.keep0 (by assumption) hB)) (by omega)) rfl ?_
      refine sw_g (g_mv rfl) rfl ?_
      refine sw_g (g_mv rfl) rfl ?_
      refine sw_g (g_ix Try.underlying22 ty5 rfl (by first | assumption | exact Own.rd (by assumption) | exact Rd.keep0 (by assumption) hB | exact Own.rd (Own.keep0 (by assumption) hB)) rfl (by omega)) rfl ?_
      refine sw_g (g_ldB sc5 rfl (by first | assumption | exact Own.rd (by assumption) | exact Rd.keep0 (by assumption) hB | exact Own.rd (Own.keep0 (by assumption) hB)) (by omega)) rfl ?_
      refine sw_g (g_ne rfl rfl) rfl ?_
      refine sw_nil ?_
      refine ow_nil ?_
      refine tw_if rfl (fun hc3 => ?_) (fun hc3 => ?_)
      · -- yes
        refine tw_seq ?_
        refine tw_region ?_
        refine ow_g (g_as rfl) rfl ?_
        refine ow_nil ?_
        refine tw_ret1 hfin Try.results34 rfl ?_
        first
        | (exact ⟨by rw [eqb_len hc1], hB⟩)
        | (exact ⟨by rw [eqb_el hc3], hB⟩)
        | (exact ⟨by rw [eqb_all hc1 hall hc3], hB⟩)
      · -- no
        refine tw_skip ?_
        refine tw_b ?_
        refine tw_region ?_
        refine ow_g (g_add rfl rfl (by omega)) rfl ?_
        refine ow_g (g_mv rfl) rfl ?_
        refine ow_nil ?_
        refine tw_inv (Γ := Int) (i + 1) ⟨rfl, rfl, rfl, rfl, trivial⟩ (by (try dsimp only); omega) (⟨by omega, by omega, eqb_step hi0 hall hc3, hB⟩)
    · -- no
      refine tw_exit rfl ?_
      refine tw_seq ?_
      refine tw_region ?_
      refine ow_g (g_as rfl) rfl ?_
      refine ow_nil ?_
      refine tw_ret1 hfin Try.results34 rfl ?_
      first
      | (exact ⟨by rw [eqb_len hc1], hB⟩)
      | (exact ⟨by rw [eqb_el hc2], hB⟩)
      | (exact ⟨by rw [eqb_all hc1 hall hc2], hB⟩)
set_option maxRecDepth 100000 in
set_option maxHeartbeats 1000000 in
theorem clone_any (v : Value) (xs : List UInt8) (w : World) (hv : RdB w v xs) (hx : xs.length ≤ 140737488355328) : Rets Try.prog 32 [v] w (fun u w' => OwnB w' w.heap.size u xs ∧ Keep [] w w' ∧ isNil u = isNil v) := by
  have hB : Keep [] w w := Keep.refl _ _
  have hn0 : isNil v = true → xs = [] := by
    obtain ⟨A, c, rfl, h1, h2, h3, h4, h5⟩ := hv
    intro h
    cases A with
    | none => have := h4 rfl; exact List.eq_nil_of_length_eq_zero (by omega)
    | some a => cases h
  refine rets_of_tw Try.func32 rfl (by decide) Try.ntmps32 rfl (fun fin _ hfin => ?_)
  refine tw_seq ?_
  refine tw_region ?_
  refine ow_g (g_as rfl) rfl ?_
  refine ow_nil ?_
  refine tw_seq ?_
  refine tw_seq ?_
  refine tw_region ?_
  refine ow_g (g_mv rfl) rfl ?_
  refine ow_g (g_nilS Try.underlying22 rfl (by first | assumption | exact Own.rd (by assumption) | exact Rd.keep0 (by assumption) hB | exact Own.rd (Own.keep0 (by assumption) hB))) rfl ?_
  refine ow_nil ?_
  refine tw_cond rfl (fun hc1 => ?_) (fun hc1 => ?_)
  · -- yes
    have hd1 := hc1
    try (simp only [Bool.and_eq_true, Bool.or_eq_true, decide_eq_true_eq, Bool.and_eq_false_iff, Bool.or_eq_false_iff, decide_eq_false_iff_not, Bool.not_eq_true', Bool.not_eq_false', Bool.not_eq_true, Bool.not_eq_false, ne_eq, Decidable.not_not, decide_true, decide_false, Bool.true_and, Bool.false_and, Bool.or_false, Bool.false_or, not_true_eq_false, false_or, or_false, true_and, and_true, not_false_eq_true, reduceCtorEq] at hd1)
    refine tw_seq ?_
    refine tw_region ?_
    refine ow_g (g_as rfl) rfl ?_
    refine ow_nil ?_
    refine tw_ret1 hfin Try.results32 rfl ?_
    first
    | (have h0 : xs = [] := hn0 (by assumption)
       subst h0; exact ⟨own_nil _ _ _ _, hB, (by show true = _; exact Eq.symm (by assumption))⟩)
    | exact ⟨by simpa using o2, hB, by simp [*]⟩
  · -- no
    have hd2 := hc1
    try (simp only [Bool.and_eq_true, Bool.or_eq_true, decide_eq_true_eq, Bool.and_eq_false_iff, Bool.or_eq_false_iff, decide_eq_false_iff_not, Bool.not_eq_true', Bool.not_eq_false', Bool.not_eq_true, Bool.not_eq_false, ne_eq, Decidable.not_not, decide_true, decide_false, Bool.true_and, Bool.false_and, Bool.or_false, Bool.false_or, not_true_eq_false, false_or, or_false, true_and, and_true, not_false_eq_true, reduceCtorEq] at hd2)
    refine tw_skip ?_
    refine tw_seq ?_
    refine tw_region ?_
    refine ow_d (d_bs (m := 0) (xs := []) (vs := []) Try.underlying22 ty5 (by decide) rfl rfl rfl (by first | (simp; done) | (intro v hv; rw [List.mem_singleton] at hv; subst hv; rfl)) (by decide)) rfl ?_
    rintro v1 w1 ⟨o1, nn1, lb1, k1, z1⟩
    have z_k1 := k1.size
    replace hB := hB.trans k1
    have u_o1 := o1.blk
    replace o1 : Own w1 _ _ 1 v1 0 (bv []) := o1
    refine ow_g (g_mv rfl) rfl ?_
    refine ow_d (d_appB  Try.underlying22 ty5 rfl (by first | assumption | exact own_nil _ _ _ _) rfl (by first | assumption | exact Own.rd (by assumption) | exact Rd.keep0 (by assumption) hB | exact Own.rd (Own.keep0 (by assumption) hB)) (by first | omega | (simp only [bv_length, List.length_append, Int.toNat_natCast] at *; omega)) (by have := hB.size; omega)) rfl ?_
    rintro v2 w2 ⟨o2, k2, lb2, nn2⟩
    have z_k2 := k2.size
    replace hB := hB.new k2 (fun x hx => .inl (o1.blk x hx).1)
    have u_o2 := fun x hx => (lb2 x hx).elim (fun h => Or.inl (u_o1 x h)) (fun h => Or.inr (And.intro h (o2.blk x hx).2))
    refine ow_g (g_as rfl) rfl ?_
    refine ow_nil ?_
    refine tw_ret1 hfin Try.results32 rfl ?_
    first
    | (have h0 : xs = [] := hn0 (by assumption)
       subst h0; exact ⟨own_nil _ _ _ _, hB, (by show true = _; exact Eq.symm (by assumption))⟩)
    | exact ⟨by simpa using o2, hB, by simp [*]⟩
end Go.Proofs.Ytkngeapegpehpaa.W
namespace Go.Proofs.Ytkngeapegpehpaa.W
open Go Go.Eng Go.Byt
set_option linter.unusedVariables false
set_option linter.unusedSimpArgs false
open Go.Fld Go.Ed
attribute [local irreducible] encB
end Go.Proofs.Ytkngeapegpehpaa.W
namespace Go.Proofs.Ytkngeapegpehpaa.W
open Go Go.Eng Go.Byt
set_option linter.unusedVariables false
set_option linter.unusedSimpArgs false
open Go.Fld Go.Ed
def mxB (xs : List UInt8) : Nat → Int
  | 0 => gb xs 0
  | i + 1 => if gb xs ((i + 1 : Nat) : Int) > mxB xs i then gb xs ((i + 1 : Nat) : Int) else mxB xs i
theorem mxB_nn (xs : List UInt8) : ∀ i, 0 ≤ mxB xs i
  | 0 => (gb_range xs 0).1
  | i + 1 => by
    have := gb_range xs ((i + 1 : Nat) : Int)
    have := mxB_nn xs i
    unfold mxB; split <;> omega
theorem mxB_zero (xs : List UInt8) : ∀ i, mxB xs i = 0 ↔ ∀ j : Nat, j ≤ i → gb xs j = 0
  | 0 => ⟨fun h j hj => by obtain rfl : j = 0 := by omega
                           exact h, fun h => h 0 (Nat.le_refl _)⟩
  | i + 1 => by
    have ih := mxB_zero xs i
    have g := gb_range xs ((i + 1 : Nat) : Int)
    have hn := mxB_nn xs i
    constructor
    · intro h j hj
      unfold mxB at h
      by_cases hji : j ≤ i
      · exact ih.1 (by split at h <;> omega) j hji
      · obtain rfl : j = i + 1 := by omega
        split at h <;> omega
    · intro h
      unfold mxB
      rw [h (i + 1) (Nat.le_refl _), ih.2 (fun j hj => h j (by omega))]; rfl
theorem mxB_step {xs : List UInt8} {m i : Int} (h1 : 1 ≤ i) (h : m = mxB xs (i - 1).toNat) : (if gb xs i > m then gb xs i else m) = mxB xs (i + 1 - 1).toNat := by
  subst h
  have e : (i + 1 - 1).toNat = (i - 1).toNat + 1 := by omega
  rw [e, mxB, show (((i - 1).toNat + 1 : Nat) : Int) = i by omega]
set_option maxRecDepth 100000 in
set_option maxHeartbeats 1000000 in
theorem maxv_any (v : Value) (xs : List UInt8) (w : World) (hv : RdB w v xs) (hx : 0 < xs.length) : Rets Try.prog 42 [v] w (fun r w' => r = .int .u8 (mxB xs ((xs.length : Int) - 1).toNat) ∧ Keep [] w w') := by
  have hB : Keep [] w w := Keep.refl _ _
  have hle := hv.le
  refine rets_of_tw Try.func42 rfl (by decide) Try.ntmps42 rfl (fun fin _ hfin => ?_)
  refine tw_seq ?_
  refine tw_region ?_
  refine ow_g (g_as rfl) rfl ?_
  refine ow_nil ?_
  refine tw_seq ?_
  refine tw_seq ?_
  refine tw_region ?_
  refine ow_g (g_mv rfl) rfl ?_
  refine ow_g (g_len Try.underlying22 rfl (by first | assumption | exact Own.rd (by assumption) | exact Rd.keep0 (by assumption) hB | exact Own.rd (Own.keep0 (by assumption) hB))) rfl ?_
  refine ow_g (g_lt rfl rfl) rfl ?_
  refine ow_nil ?_
  refine tw_ifF rfl (by omega) ?_
  refine tw_skip ?_
  refine tw_seq ?_
  refine tw_region ?_
  refine ow_g (g_mv rfl) rfl ?_
  refine ow_g (g_ix Try.underlying22 ty5 rfl (by first | assumption | exact Own.rd (by assumption) | exact Rd.keep0 (by assumption) hB | exact Own.rd (Own.keep0 (by assumption) hB)) rfl (by omega)) rfl ?_
  refine ow_g (g_ldB sc5 rfl (by first | assumption | exact Own.rd (by assumption) | exact Rd.keep0 (by assumption) hB | exact Own.rd (Own.keep0 (by assumption) hB)) (by omega)) rfl ?_
  refine ow_g (g_as rfl) rfl ?_
  refine ow_nil ?_
  refine tw_seq ?_
  refine tw_seq ?_
  refine tw_region ?_
  refine ow_g (g_as rfl) rfl ?_
  refine ow_nil ?_
  refine tw_block ?_
  refine tw_loop (Γ := Int × Int) (fun ⟨i, m⟩ => [(0, v), (3, .int .u8 m), (4, .int .i64 i)]) (fun ⟨i, m⟩ W => 1 ≤ i ∧ i ≤ xs.length ∧ m = mxB xs (i - 1).toNat ∧ Keep [] w W) (fun ⟨i, m⟩ => (xs.length - i).toNat) ⟨1, gb xs 0⟩ ⟨rfl, rfl, rfl, trivial⟩ (⟨by decide, by omega, rfl, hB⟩) ?_
  rintro ⟨i, m⟩ w1 ⟨hi0, hi1, hall, hB⟩
  refine tw_keep [(0, v), (3, .int .u8 m), (4, .int .i64 i)] ⟨rfl, rfl, rfl, trivial⟩ ?_
  refine tw_seq ?_
  refine tw_seq ?_
  refine tw_region ?_
  refine ow_g (g_mv rfl) rfl ?_
  refine ow_g (g_mv rfl) rfl ?_
  refine ow_g (g_len Try.underlying22 rfl (by first | assumption | exact Own.rd (by assumption) | exact Rd.keep0 (by assumption) hB | exact Own.rd (Own.keep0 (by assumption) hB))) rfl ?_
  refine ow_g (g_lt rfl rfl) rfl ?_
  refine ow_nil ?_
  refine tw_if rfl (fun hc1 => ?_) (fun hc1 => ?_)
  · -- yes
    refine tw_skip ?_
    refine tw_seq ?_
    refine tw_block ?_
    refine tw_region ?_
    refine ow_g (g_mv rfl) rfl ?_
    refine ow_g (g_mv rfl) rfl ?_
    refine ow_g (g_mv rfl) rfl ?_
    refine ow_g (g_ix Try.underlying22 ty5 rfl (by first | assumption | exact Own.rd (by assumption) | exact Rd.keep0 (by assumption) hB | exact Own.rd (Own.keep0 (by assumption) hB)) rfl (by omega)) rfl ?_
    refine ow_g (g_ldB sc5 rfl (by first | assumption | exact Own.rd (by assumption) | exact Rd.keep0 (by assumption) hB | exact Own.rd (Own.keep0 (by assumption) hB)) (by omega)) rfl ?_
    refine ow_g (g_max rfl rfl) rfl ?_
    refine ow_g (g_as rfl) rfl ?_
    refine ow_nil ?_
    refine tw_b ?_
    refine tw_region ?_
    refine ow_g (g_mv rfl) rfl ?_
    refine ow_g (g_add rfl rfl (by omega)) rfl ?_
    refine ow_g (g_as rfl) rfl ?_
    refine ow_nil ?_
    refine tw_inv (Γ := Int × Int) ⟨i + 1, _⟩ ⟨rfl, rfl, rfl, trivial⟩ (by (try dsimp only); omega) (⟨by omega, by omega, mxB_step hi0 hall, hB⟩)
  · -- no
    refine tw_exit rfl ?_
    refine tw_seq ?_
    refine tw_region ?_
    refine ow_g (g_mv rfl) rfl ?_
    refine ow_g (g_as rfl) rfl ?_
    refine ow_nil ?_
    refine tw_ret1 hfin Try.results42 rfl ?_
    exact ⟨by rw [hall, show i - 1 = (xs.length : Int) - 1 by omega], hB⟩
set_option maxRecDepth 100000 in
set_option maxHeartbeats 1000000 in
theorem mul_any64 (x y : Int) (hx : In x 0 18446744073709551615) (hy : In y 0 18446744073709551615) (w : World) : Rets Try.prog 78 [.int .u64 x, .int .u64 y] w (fun v w' => v = .tuple #[.int .u64 (x * y / 18446744073709551616), .int .u64 (x * y % 18446744073709551616)] ∧ w = w') := by
  refine rets_of_tw Try.func78 rfl (by decide) Try.ntmps78 rfl (fun fin _ hfin => ?_)
  refine tw_seq ?_
  refine tw_region ?_
  refine ow_g (g_as rfl) rfl ?_
  refine ow_g (g_as rfl) rfl ?_
  refine ow_nil ?_
  refine tw_seq ?_
  refine tw_cond_false rfl ?_
  refine tw_skip ?_
  refine tw_seq ?_
  refine tw_region ?_
  refine ow_g (g_mv rfl) rfl ?_
  refine ow_g (g_mv rfl) rfl ?_
  refine ow_d (d_call (vs := [_, _]) rfl (mul64_any _ _ (In.wk hx rfl) (In.wk hy rfl) _)) rfl ?_
  rintro _ _ ⟨rfl, rfl⟩
  refine ow_g (g_mv rfl) rfl ?_
  refine ow_gx (e' := (x * y / 18446744073709551616)) (lo := 0) (hi := 18446744073709551614) (g_ext (vs := [_, _]) rfl rfl) (rfl) (In.wk (in_div (in_mul hx hy (by decide) (by decide)) (by decide)) rfl) rfl (fun z1 h1 r1 => ?_)
  refine ow_gx (e' := (x * y % 18446744073709551616)) (lo := 0) (hi := 18446744073709551615) (g_ext (vs := [_, _]) rfl rfl) (rfl) (In.wk (in_mod _ (by decide)) rfl) rfl (fun z2 h2 r2 => ?_)
  refine ow_g (g_as rfl) rfl ?_
  refine ow_g (g_as rfl) rfl ?_
  refine ow_nil ?_
  refine tw_seq ?_
  refine tw_region ?_
  refine ow_g (g_mv rfl) rfl ?_
  refine ow_g (g_mv rfl) rfl ?_
  refine ow_g (g_as rfl) rfl ?_
  refine ow_g (g_as rfl) rfl ?_
  refine ow_nil ?_
  refine tw_ret2 hfin Try.results78 rfl rfl ?_
  simp only [Eqn, In] at h1 r1 h2 r2
  exact ⟨by subst_vars; rfl, rfl⟩
theorem mul_1_32 (w : World) : Rets Try.prog 78 [.int .u64 1, .int .u64 32] w (fun v w' => v = .tuple #[.int .u64 0, .int .u64 32] ∧ w = w') := mul_any64 1 32 (by decide) (by decide) w
def repN (b : UInt8) (n : Nat) : List UInt8 := List.replicate n b ++ List.replicate (32 - n) 0
theorem repN_len (b : UInt8) (n : Nat) (h : n ≤ 32) : (repN b n).length = 32 := by unfold repN; simp; omega
theorem rep_step {n : Nat} {f : Fr} {w : World} {ty : TypeId} {x y : Operand} {lo nn : Nat} {q : Value} {b : UInt8} (hx : f.ev x = some (cut q nn 32 1)) (hy : f.ev y = some (cut q 0 nn 1)) (ho : Own w lo 5 1 q 32 (bv (repN b nn))) (h1 : 1 ≤ nn) (h2 : nn < 32) :
    Does Try.prog n f w (.call { callee := .builtin .copy, args := #[x, y], argTypes := #[22, 22] }) ty
      (fun r w' => r = .int .i64 ((min nn (32 - nn) : Nat) : Int) ∧ Own w' lo 5 1 q 32 (bv (repN b (nn + min nn (32 - nn)))) ∧ Keep (vblk q) w w' ∧ w'.heap.size = w.heap.size) := by
  have hr : RdB w q (repN b nn) := by unfold RdB; rw [repN_len _ _ (by omega)]; exact ho.rd
  have hc := hr.cutB (l := 0) (hi := nn) (by omega) (by rw [repN_len _ _ (by omega)]; omega)
  have e1 : ((repN b nn).drop 0).take (nn - 0) = List.replicate nn b := by unfold repN; simp
  rw [e1] at hc
  refine (d_cpAt Try.underlying22 ty5 hx ho (by omega) hy hc (bv_one _) (s := min nn (32 - nn)) (by rw [List.length_replicate]) (by omega)).mono ?_
  rintro r w' ⟨rfl, o, k, z⟩
  refine ⟨rfl, ?_, k, z⟩
  have e2 : (bv (repN b nn)).take nn ++ (bv (List.replicate nn b)).take (min nn (32 - nn)) ++ (bv (repN b nn)).drop (nn + min nn (32 - nn)) = bv (repN b (nn + min nn (32 - nn))) := by
    rw [bv_take, bv_take, bv_drop, ← bv_append, ← bv_append]
    congr 1
    unfold repN
    rw [List.take_left' (by simp), List.take_replicate, List.drop_append, List.length_replicate, List.drop_eq_nil_of_le (by simp), List.nil_append, List.drop_replicate, Nat.min_eq_left (show min nn (32 - nn) ≤ nn by omega), ← List.replicate_append_replicate, show nn + min nn (32 - nn) - nn = min nn (32 - nn) by omega, show 32 - nn - min nn (32 - nn) = 32 - (nn + min nn (32 - nn)) by omega]
  rw [e2] at o; exact o
set_option maxRecDepth 100000 in
set_option maxHeartbeats 1000000 in
theorem repeat_any (v : Value) (b : UInt8) (w : World) (hv : Rd w 1 v 1 (bv [b])) : Rets Try.prog 57 [v, .int .i64 32] w (fun r w' => Own w' w.heap.size 5 1 r 32 (bv (repN b 32)) ∧ Keep [] w w') := by
  have hB : Keep [] w w := Keep.refl _ _
  refine rets_of_tw Try.func57 rfl (by decide) Try.ntmps57 rfl (fun fin _ hfin => ?_)
  refine tw_seq ?_
  refine tw_region ?_
  refine ow_g (g_as rfl) rfl ?_
  refine ow_nil ?_
  refine tw_seq ?_
  refine tw_seq ?_
  refine tw_region ?_
  refine ow_g (g_mv rfl) rfl ?_
  refine ow_g (g_lt rfl rfl) rfl ?_
  refine ow_nil ?_
  refine tw_ifF rfl (by decide) ?_
  refine tw_skip ?_
  refine tw_seq ?_
  refine tw_region ?_
  refine ow_g (g_mv rfl) rfl ?_
  refine ow_g (g_len Try.underlying22 rfl (by first | assumption | exact Own.rd (by assumption) | exact Rd.keep0 (by assumption) hB | exact Own.rd (Own.keep0 (by assumption) hB))) rfl ?_
  refine ow_g (g_fold (j := 1) (g_cv (by rw [Try.underlying3]; rfl) Try.underlying53 rfl) (by decide)) rfl ?_
  refine ow_g (g_mv rfl) rfl ?_
  refine ow_g (g_fold (j := 32) (g_cv (by rw [Try.underlying3]; rfl) Try.underlying53 rfl) (by decide)) rfl ?_
  refine ow_d (d_call (vs := [_, _]) rfl (mul_1_32 _)) rfl ?_
  rintro _ _ ⟨rfl, rfl⟩
  refine ow_g (g_mv rfl) rfl ?_
  refine ow_g (g_ext (vs := [_, _]) rfl rfl) rfl ?_
  refine ow_g (g_ext (vs := [_, _]) rfl rfl) rfl ?_
  refine ow_g (g_as rfl) rfl ?_
  refine ow_g (g_as rfl) rfl ?_
  refine ow_nil ?_
  refine tw_seq ?_
  refine tw_seq ?_
  refine tw_region ?_
  refine ow_g (g_mv rfl) rfl ?_
  refine ow_g (g_gt rfl rfl) rfl ?_
  refine ow_g (g_mv rfl) rfl ?_
  refine ow_grp 23 false rfl (fun c1 hgc1 => ?_)
  refine ow_gg [(6, _)] (grd1 rfl rfl rfl hgc1) ⟨und0 rfl, trivial⟩ (fun hw1 => g_mv rfl) rfl ?_
  refine ow_gg [(24, _)] (grd1 rfl rfl rfl hgc1) ⟨und1 rfl, trivial⟩ (fun hw2 => g_gt rfl rfl) rfl ?_
  refine ow_g (g_por rfl rfl hgc1) rfl ?_
  refine ow_nil ?_
  refine tw_condF rfl (by decide) ?_
  refine tw_skip ?_
  refine tw_seq ?_
  refine tw_region ?_
  refine ow_g (g_mv rfl) rfl ?_
  refine ow_g (g_fold (j := 32) (g_cv (by rw [Try.underlying53]; rfl) Try.underlying3 rfl) (by decide)) rfl ?_
  refine ow_d (d_mk Try.underlying22 ty5 rfl rfl (by omega) (by constructor <;> omega)) rfl ?_
  rintro q w1 ⟨o1, _, _, k1, _⟩
  have o2 : Own w1 w.heap.size 5 1 q 32 (List.replicate 32 (.int .u8 0)) := o1.lo hB.size
  clear o1
  replace hv := hv.keep0 k1
  replace hB := hB.trans k1
  obtain ⟨g, c, cur, rfl, hg, _, hcap1, hcap2, _, _⟩ := o2.raw (by simp)
  refine ow_g (g_as rfl) rfl ?_
  refine ow_nil ?_
  refine tw_seq ?_
  refine tw_region ?_
  refine ow_g (g_mv rfl) rfl ?_
  refine ow_g (g_mv rfl) rfl ?_
  refine ow_d (d_cp Try.underlying22 ty5 rfl o2 rfl hv (bv_one _) rfl) rfl ?_
  rintro _ w2 ⟨rfl, o3, k2, z2⟩
  replace hB := hB.new k2 (fun x hx => .inl ((List.mem_singleton.1 hx) ▸ hg))
  clear hv
  refine ow_g (g_as rfl) rfl ?_
  refine ow_nil ?_
  refine tw_seq ?_
  refine tw_block ?_
  refine tw_loop (Γ := Nat) (fun i => [(7, .slice (some ⟨g, 0, none⟩) 32 c), (8, .int .i64 (i : Int))]) (fun i W => 1 ≤ i ∧ i ≤ 32 ∧ Own W w.heap.size 5 1 (.slice (some ⟨g, 0, none⟩) 32 c) 32 (bv (repN b i)) ∧ Keep [] w W) (fun i => 32 - i) 1 ⟨rfl, rfl, trivial⟩ (⟨by decide, by decide, o3, hB⟩) ?_
  rintro i w2 ⟨hi0, hi1, o4, hB⟩
  refine tw_keep [(7, .slice (some ⟨g, 0, none⟩) 32 c), (8, .int .i64 (i : Int))] ⟨rfl, rfl, trivial⟩ ?_
  refine tw_seq ?_
  refine tw_seq ?_
  refine tw_region ?_
  refine ow_g (g_mv rfl) rfl ?_
  refine ow_g (g_mv rfl) rfl ?_
  refine ow_g (g_len Try.underlying22 rfl (by first | assumption | exact Own.rd (by assumption) | exact Rd.keep0 (by assumption) hB | exact Own.rd (Own.keep0 (by assumption) hB))) rfl ?_
  refine ow_g (g_lt rfl rfl) rfl ?_
  refine ow_nil ?_
  refine tw_if rfl (fun hc1 => ?_) (fun hc1 => ?_)
  · -- yes
    refine tw_skip ?_
    refine tw_block ?_
    refine tw_planA 8 [0, 1, 2, 3, 4, 5, 6, 7] [7] [g] [] mixed [(7, _), (8, _)] ⟨rfl, rfl, trivial⟩ (by decide +kernel) (by decide) (by decide) ?_ (fun x hx => (List.mem_singleton.1 hx) ▸ (o4.blk g (by simp [vblk])).2) rfl (fun w5 k5 => ?_)
    · intro q hq; cases hq
    replace o4 := o4.keep0 k5
    replace hB := hB.trans k5
    refine pa_g [(8, _)] rfl rfl ⟨rfl, trivial⟩ rfl (fun W' kk => g_mv rfl) ?_
    refine pa_g [(7, _)] rfl rfl ⟨rfl, trivial⟩ rfl (fun W' kk => g_mv rfl) ?_
    refine pa_g [(8, _)] rfl rfl ⟨rfl, trivial⟩ rfl (fun W' kk => g_mv rfl) ?_
    refine pa_g [(39, _), (40, _)] rfl rfl ⟨rfl, rfl, trivial⟩ rfl (fun W' kk => g_slv Try.underlying22 ty5 rfl hcap2 hcap1 (.inr ⟨_, _, rfl, rfl⟩) (.inl ⟨rfl, rfl⟩) (by omega)) ?_
    refine pa_g [(7, _)] rfl rfl ⟨rfl, trivial⟩ rfl (fun W' kk => g_mv rfl) ?_
    refine pa_g [(8, _)] rfl rfl ⟨rfl, trivial⟩ rfl (fun W' kk => g_mv rfl) ?_
    refine pa_g [(42, _), (43, _)] rfl rfl ⟨rfl, rfl, trivial⟩ rfl (fun W' kk => g_slv Try.underlying22 ty5 rfl hcap2 hcap1 (.inl ⟨rfl, rfl⟩) (.inr ⟨_, _, rfl, rfl⟩) (by omega)) ?_
    refine pa_d [(41, _), (44, _)] rfl rfl ⟨rfl, rfl, trivial⟩ rfl (fun w6 k6 => ?_)
    refine (rep_step rfl rfl (o4.keep0 k6) hi0 (by omega)).mono ?_
    rintro _ w6' ⟨rfl, o5, k6', z6⟩
    replace hB := (hB.trans k6).new k6' (fun x hx => .inl ((List.mem_singleton.1 hx) ▸ hg))
    refine ⟨k6', (fun x hx => by have hx : x ∈ ([] : List Nat) := hx; cases hx), ?_⟩
    clear o4
    refine pa_nil (fun w7 k7 => ?_)
    replace o5 := o5.keep0 k7
    replace hB := hB.trans k7
    refine fina_nil ?_
    refine ow_g (g_add rfl rfl (by omega)) rfl ?_
    refine ow_g (g_as rfl) rfl ?_
    refine ow_nil ?_
    refine tw_b ?_
    refine tw_inv (Γ := Nat) (i + min i (32 - i)) ⟨rfl, rfl, trivial⟩ (by (try dsimp only); omega) (⟨by omega, by omega, o5, hB⟩)
  · -- no
    refine tw_exit rfl ?_
    refine tw_seq ?_
    refine tw_region ?_
    refine ow_g (g_mv rfl) rfl ?_
    refine ow_g (g_as rfl) rfl ?_
    refine ow_nil ?_
    refine tw_ret1 hfin Try.results57 rfl ?_
    obtain rfl : i = 32 := by omega
    exact ⟨o4, hB⟩
end Go.Proofs.Ytkngeapegpehpaa.W
namespace Go.Proofs.Ytkngeapegpehpaa.W
open Go Go.Eng Go.Byt
set_option linter.unusedVariables false
set_option linter.unusedSimpArgs false
open Go.Fld Go.Ed
attribute [local irreducible] encB
def decLow (xs : List UInt8) : List UInt8 := xs.set 31 (UInt8.ofNat (bits .andNot .u8 (gb xs 31) 128).toNat)
def decY (xs : List UInt8) : Fp := fp (leI (decLow xs))
def decOdd (xs : List UInt8) : Bool := decide (gb xs 31 / 128 = 1)
def decU (y : Fp) : Fp := y * y - fp 1
def decV (y : Fp) : Fp := d * (y * y) + fp 1
def decE (xs : List UInt8) : Int := if xs.length ≠ 32 then 1 else if fpB (decY xs) ≠ decLow xs then 30 else if (!rootOk (decU (decY xs)) (decV (decY xs)) || (decOdd xs && decide (rootF (decU (decY xs)) (decV (decY xs)) = 0))) = true then 30 else 0
def decX (xs : List UInt8) : Fp := if decOdd xs = true then 0 - rootF (decU (decY xs)) (decV (decY xs)) else rootF (decU (decY xs)) (decV (decY xs))
theorem decLow_len (xs : List UInt8) (hx : xs.length = 32) : (decLow xs).length = 32 := by unfold decLow; rw [List.length_set, hx]
theorem fp_fpB (a : Fp) : fp (leI (fpB a)) = a := by
  have h := a.isLt
  have hp : (P : Int) < 256 ^ 32 := by decide +kernel
  unfold fpB
  rw [leI_leB 32 (a.val : Int) (by omega) (by omega), fp_self]
theorem gb_fpB_zero (a : Fp) : (∀ j : Nat, j ≤ 31 → gb (fpB a) j = 0) ↔ a = 0 := by
  constructor
  · intro h
    refine fpB_inj (List.ext_getElem (by rw [fpB_length, fpB_length]) (fun j h1 h2 => ?_))
    have g := h j (by rw [fpB_length] at h1; omega)
    have g0 : gb (fpB (0 : Fp)) j = 0 := by
      have hj : j < 32 := by rwa [fpB_length] at h1
      have : ∀ j : Nat, j < 32 → gb (fpB (0 : Fp)) (j : Int) = 0 := by decide +kernel
      exact this j hj
    unfold gb at g g0
    rw [Int.toNat_natCast, List.getD_eq_getElem?_getD, List.getElem?_eq_getElem h1] at g
    rw [Int.toNat_natCast, List.getD_eq_getElem?_getD, List.getElem?_eq_getElem h2] at g0
    simp only [Option.getD_some] at g g0
    exact UInt8.toNat_inj.1 (by omega)
  · rintro rfl
    have : ∀ j : Nat, j < 32 → gb (fpB (0 : Fp)) (j : Int) = 0 := by decide +kernel
    intro j hj; exact this j (by omega)
theorem mx_fpB (a : Fp) : decide (mxB (fpB a) (((fpB a).length : Int) - 1).toNat = 0) = decide (a = 0) := by
  rw [fpB_length]
  exact decide_eq_decide.2 ((mxB_zero _ _).trans (gb_fpB_zero a))
theorem dec_e1 {xs : List UInt8} (hx : xs.length = 32) (h : ¬ fpB (fp (leI (decLow xs))) = decLow xs) : decE xs = 30 := by
  unfold decE decY; rw [if_neg (by omega), if_pos h]
theorem dec_b {xs : List UInt8} {z : Int} {c : Bool} {U V : Fp} (hz : Eqn z (gb xs 31 / 128)) (hU : U = decU (decY xs)) (hV : V = decV (decY xs))
    (h : (!rootOk (fp (leI (fpB U))) (fp (leI (fpB V))) || decide (z = 1) && decide (mxB (fpB (rootF (fp (leI (fpB U))) (fp (leI (fpB V))))) (((fpB (rootF (fp (leI (fpB U))) (fp (leI (fpB V))))).length : Int) - 1).toNat = 0)) = c) :
    (!rootOk (decU (decY xs)) (decV (decY xs)) || (decOdd xs && decide (rootF (decU (decY xs)) (decV (decY xs)) = 0))) = c := by
  unfold Eqn at hz
  subst hz hU hV
  rw [mx_fpB, fp_fpB, fp_fpB] at h
  exact h
theorem dec_e2 {xs : List UInt8} {z : Int} (hx : xs.length = 32) (h1 : ¬¬ fpB (fp (leI (decLow xs))) = decLow xs) (h : (!rootOk (decU (decY xs)) (decV (decY xs)) || (decOdd xs && decide (rootF (decU (decY xs)) (decV (decY xs)) = 0))) = true) : decE xs = 30 := by
  have h1 : ¬ fpB (decY xs) ≠ decLow xs := h1
  unfold decE; rw [if_neg (by omega), if_neg h1, if_pos h]
theorem dec_e0 {xs : List UInt8} {z : Int} (hx : xs.length = 32) (h1 : ¬¬ fpB (fp (leI (decLow xs))) = decLow xs) (h : (!rootOk (decU (decY xs)) (decV (decY xs)) || (decOdd xs && decide (rootF (decU (decY xs)) (decV (decY xs)) = 0))) = false) : decE xs = 0 := by
  have h1 : ¬ fpB (decY xs) ≠ decLow xs := h1
  unfold decE; rw [if_neg (by omega), if_neg h1, if_neg (by rw [h]; decide)]
theorem dec_xT {xs : List UInt8} {z : Int} {U V : Fp} (hz : Eqn z (gb xs 31 / 128)) (hU : U = decU (decY xs)) (hV : V = decV (decY xs)) (h : z = 1) : decX xs = 0 - fp (leI (fpB (rootF (fp (leI (fpB U))) (fp (leI (fpB V)))))) := by
  unfold Eqn at hz
  subst hU hV
  rw [fp_fpB, fp_fpB, fp_fpB]
  unfold decX
  rw [if_pos (by unfold decOdd; rw [← hz]; exact decide_eq_true h)]
theorem dec_xF {xs : List UInt8} {z : Int} {U V : Fp} (hz : Eqn z (gb xs 31 / 128)) (hU : U = decU (decY xs)) (hV : V = decV (decY xs)) (h : ¬ z = 1) : decX xs = fp (leI (fpB (rootF (fp (leI (fpB U))) (fp (leI (fpB V)))))) := by
  unfold Eqn at hz
  subst hU hV
  rw [fp_fpB, fp_fpB, fp_fpB]
  unfold decX
  rw [if_neg (by unfold decOdd; rw [← hz, decide_eq_false h]; decide)]
set_option maxRecDepth 100000 in
set_option maxHeartbeats 1000000 in
theorem Pdecode_32 (v : Value) (xs : List UInt8) (w : World) (hv : RdB w v xs) (hx : xs.length = 32) : Rets Try.prog 9 [v] w (fun v w' => ∃ p, v = .tuple #[.agg (iv .u64 20 p).toArray, .int .i64 (decE xs)] ∧ (decE xs = 0 → PtEl p (decX xs) (decY xs) (fp 1) (decX xs * decY xs)) ∧ (decE xs ≠ 0 → p = fun _ => 0) ∧ Keep [] w w') := by
 have hB : Keep [] w w := Keep.refl _ _
 refine rets_of_tw Try.func9 rfl (by decide) Try.ntmps9 rfl (fun fin _ hfin => ?_)
 refine tw_seq (tw_region (ow_d (d_alloc ty30) rfl ?_))
 rintro _ w1 ⟨b1, rfl, eb1, hb1, k1, z1⟩
 have ge_b1 : w.heap.size ≤ b1 := by have := hB.size; omega
 replace hB := hB.trans k1
 clear eb1 z1
 refine ow_g (g_as rfl) rfl (ow_nil (tw_seq (tw_seq (tw_region (ow_g (g_mv rfl) rfl (ow_g (g_len Try.underlying22 rfl (by first | assumption | exact Own.rd ‹_› | exact Rd.keep0 ‹_› hB | exact Own.rd (Own.keep0 ‹_› hB))) rfl ?_))))))
 refine ow_g (g_ne rfl rfl) rfl ?_
 refine ow_nil (tw_ifF rfl (by omega) ?_)
 refine tw_skip (tw_seq (tw_region (ow_g (g_mv rfl) rfl (ow_g (g_ix Try.underlying22 ty5 rfl (by first | assumption | exact Own.rd ‹_› | exact Rd.keep0 ‹_› hB | exact Own.rd (Own.keep0 ‹_› hB)) rfl (by omega)) rfl ?_))))
 refine ow_g (g_ldB sc5 rfl (by first | assumption | exact Own.rd ‹_› | exact Rd.keep0 ‹_› hB | exact Own.rd (Own.keep0 ‹_› hB)) (by omega)) rfl ?_
 refine ow_gx (e' := (gb xs (31)) / 128) (lo := 0) (hi := 1) (g_shrp (m := 128) rfl rfl (by decide) rfl) (rfl) (In.wk (in_div (gb_range xs (31)) (by decide)) rfl) rfl (fun z2 h1 r1 => ?_)
 refine ow_g (g_eq rfl rfl) rfl ?_
 refine ow_g (g_as rfl) rfl (ow_nil (tw_seq (tw_region (ow_g (g_mv rfl) rfl (ow_d (d_call (vs := [_]) rfl (clone_any _ xs _ (by first | assumption | exact Own.rd ‹_› | exact Rd.keep0 ‹_› hB | exact Own.rd (Own.keep0 ‹_› hB)) (by omega))) rfl ?_)))))
 rintro v1 w2 ⟨o1, k2, _⟩
 have gl_o1 := hB.size
 have sb_b1_o1 := fun x hx => (show x ≠ b1 from by have h1 := (o1.blk x hx).1; have h2 := hb1.lt; omega)
 replace hb1 := hb1.keep0 k2
 replace hB := hB.trans k2
 have u_o1 := o1.blk
 refine ow_g (g_as rfl) rfl (ow_nil (tw_keep [(2, _), (4, _), (5, _)] ⟨rfl, rfl, rfl, trivial⟩ ?_))
 refine tw_seq (tw_region (ow_g (g_mv rfl) rfl (ow_g (g_ix Try.underlying22 ty5 rfl (by first | assumption | exact Own.rd ‹_› | exact Rd.keep0 ‹_› hB | exact Own.rd (Own.keep0 ‹_› hB)) rfl (by omega)) rfl ?_)))
 refine ow_g (g_ldB sc5 rfl (by first | assumption | exact Own.rd ‹_› | exact Rd.keep0 ‹_› hB | exact Own.rd (Own.keep0 ‹_› hB)) (by omega)) rfl ?_
 refine ow_g (g_andNot rfl rfl) rfl ?_
 refine ow_g (g_ix Try.underlying22 ty5 rfl (by first | assumption | exact Own.rd ‹_› | exact Rd.keep0 ‹_› hB | exact Own.rd (Own.keep0 ‹_› hB)) rfl (by omega)) rfl ?_
 refine ow_d0 (d_sto (u := .int .u8 _) ty5 rfl rfl rfl o1 (by rw [bv_length, hx]; decide)) ?_
 rintro _ w99 ⟨ow2, k99, z99⟩
 replace hB := hB.new k99 (fun x hx => .inl (Nat.le_trans gl_o1 (o1.blk x hx).1))
 replace ow2 : OwnB w99 w.heap.size v1 (decLow xs) := by unfold OwnB decLow; rw [List.length_set, ← bv_setB (bits_in (k := .u8) rfl _ _ _)]; exact ow2.lo gl_o1
 replace hb1 := hb1.keep k99 (fun hm => sb_b1_o1 _ hm rfl)
 refine ow_nil (tw_seq (tw_region (ow_g (g_mv rfl) rfl (ow_d (d_call (vs := [_]) rfl (from_any _ (decLow xs) _ ow2.rd (decLow_len xs hx))) rfl ?_))))
 rintro _ w3 ⟨hh1, rfl, E1, k3⟩
 replace hb1 := hb1.keep0 k3
 replace ow2 := ow2.keep0 k3
 replace hB := hB.trans k3
 refine ow_g (g_mv rfl) rfl (ow_g (g_ext (vs := [_, _]) rfl rfl) rfl ?_)
 refine ow_g (g_ext (vs := [_, _]) rfl rfl) rfl ?_
 refine ow_d (d_alloc ty28) rfl ?_
 rintro _ w4 ⟨b2, rfl, eb2, hb2, k4, z3⟩
 have ge_b2 : w.heap.size ≤ b2 := by have := hB.size; omega
 have ne_b1_b2 : b1 ≠ b2 := by have := hb1.lt; omega
 have sb_b2_ow2 := fun x hx => (show x ≠ b2 from by have := (ow2.blk x hx).2; omega)
 replace hb1 := hb1.keep0 k4
 replace ow2 := ow2.keep0 k4
 replace hB := hB.trans k4
 clear eb2 z3
 refine ow_d0 (d_sta ty28 rfl rfl rfl ivF_one hb2 rfl) ?_
 rintro _ w5 ⟨hb3, k5, z4⟩
 replace hb1 := hb1.keep k5 (fun hm => absurd (List.mem_singleton.1 hm) ne_b1_b2)
 replace ow2 := ow2.keep k5 (fun x hx hm => sb_b2_ow2 x hx (List.mem_singleton.1 hm))
 replace hB := hB.new k5 (fun x hx => .inl ((List.mem_singleton.1 hx) ▸ ge_b2))
 clear z4
 replace hb3 : Bk w5 b2 _ [.int .u64 (hh1 0), .int .u64 (hh1 1), .int .u64 (hh1 2), .int .u64 (hh1 3), .int .u64 (hh1 4)] := hb3
 refine ow_g (g_as rfl) rfl (ow_nil (tw_keep [(2, _), (4, _), (5, _), (6, _)] ⟨rfl, rfl, rfl, rfl, trivial⟩ ?_))
 refine tw_seq (tw_seq (tw_region (ow_g (g_ldab (cs' := [_, _, _, _, _]) ag28 ty28 rfl hb3 rfl rfl) rfl ?_)))
 refine ow_d (d_call (vs := [_]) rfl (nbytes_any _ _ E1 _)) rfl ?_
 rintro v2 w6 ⟨o2, k6⟩
 have gl_o2 := hB.size
 have sb_b1_o2 := fun x hx => (show x ≠ b1 from by have h1 := (o2.blk x hx).1; have h2 := hb1.lt; omega)
 have sb_b2_o2 := fun x hx => (show x ≠ b2 from by have h1 := (o2.blk x hx).1; have h2 := hb3.lt; omega)
 replace hb1 := hb1.keep0 k6
 replace ow2 := ow2.keep0 k6
 replace hb3 := hb3.keep0 k6
 replace hB := hB.trans k6
 have u_o2 := o2.blk
 refine ow_g (g_mv rfl) rfl (ow_d (d_call (vs := [_, _]) rfl (equal_any _ _ (fpB (fp (leI (decLow xs)))) (decLow xs) _ o2.rd ow2.rd)) rfl ?_)
 rintro _ w7 ⟨rfl, k7⟩
 replace hb1 := hb1.keep0 k7
 replace ow2 := ow2.keep0 k7
 replace hb3 := hb3.keep0 k7
 replace o2 := o2.keep0 k7
 replace hB := hB.trans k7
 refine ow_g (g_notd rfl) rfl ?_
 refine ow_nil (tw_if rfl (fun hc1 => ?_) (fun hc1 => ?_))
 ·
  refine tw_seq (tw_region (ow_g (g_bld (idx := []) (xs := []) (vs := []) (css := []) (out := [_, _, _, _, _, _, _, _, _, _, _, _, _, _, _, _, _, _, _, _]) pl30 ty30 rfl rfl trivial rfl rfl) rfl ?_))
  refine ow_d0 (d_sta ty30 rfl rfl rfl (by simp only [List.forall_mem_cons]; refine ⟨rfl, rfl, rfl, rfl, rfl, rfl, rfl, rfl, rfl, rfl, rfl, rfl, rfl, rfl, rfl, rfl, rfl, rfl, rfl, rfl, fun v hv => by cases hv⟩) hb1 rfl) ?_
  rintro _ w8 ⟨hb4, k8, z5⟩
  replace ow2 := ow2.keep k8 (fun x hx hm => sb_b1_o1 x hx (List.mem_singleton.1 hm))
  replace hb3 := hb3.keep k8 (fun hm => absurd (List.mem_singleton.1 hm) (Ne.symm ne_b1_b2))
  replace o2 := o2.keep k8 (fun x hx hm => sb_b1_o2 x hx (List.mem_singleton.1 hm))
  replace hB := hB.new k8 (fun x hx => .inl ((List.mem_singleton.1 hx) ▸ ge_b1))
  clear z5
  replace hb4 : Bk w8 b1 _ [.int .u64 0, .int .u64 0, .int .u64 0, .int .u64 0, .int .u64 0, .int .u64 0, .int .u64 0, .int .u64 0, .int .u64 0, .int .u64 0, .int .u64 0, .int .u64 0, .int .u64 0, .int .u64 0, .int .u64 0, .int .u64 0, .int .u64 0, .int .u64 0, .int .u64 0, .int .u64 0] := hb4
  refine ow_g (g_as rfl) rfl (ow_nil (tw_retct hfin Try.results9 rfl (run_loadAgg ag30 ty30 ‹_› rfl) rfl ?_))
  have he := dec_e1 hx hc1
  exact ⟨fun _ => 0, by rw [he]; rfl, fun h => by rw [he] at h; exact absurd h (by decide), fun _ => rfl, hB⟩
 ·
  refine tw_skip (tw_seq (tw_region (ow_d (d_call (vs := [_]) rfl (Small_any _ (by decide) _)) rfl ?_)))
  rintro _ w9 ⟨hh2, rfl, E2, k9⟩
  replace hb1 := hb1.keep0 k9
  replace ow2 := ow2.keep0 k9
  replace hb3 := hb3.keep0 k9
  replace o2 := o2.keep0 k9
  replace hB := hB.trans k9
  refine ow_d (d_alloc ty28) rfl ?_
  rintro _ w10 ⟨b3, rfl, eb3, hb5, k10, z6⟩
  have ge_b3 : w.heap.size ≤ b3 := by have := hB.size; omega
  have ne_b1_b3 : b1 ≠ b3 := by have := hb1.lt; omega
  have sb_b3_ow2 := fun x hx => (show x ≠ b3 from by have := (ow2.blk x hx).2; omega)
  have ne_b2_b3 : b2 ≠ b3 := by have := hb3.lt; omega
  have sb_b3_o2 := fun x hx => (show x ≠ b3 from by have := (o2.blk x hx).2; omega)
  replace hb1 := hb1.keep0 k10
  replace ow2 := ow2.keep0 k10
  replace hb3 := hb3.keep0 k10
  replace o2 := o2.keep0 k10
  replace hB := hB.trans k10
  clear eb3 z6
  refine ow_d0 (d_sta ty28 rfl rfl rfl ivF_one hb5 rfl) ?_
  rintro _ w11 ⟨hb6, k11, z7⟩
  replace hb1 := hb1.keep k11 (fun hm => absurd (List.mem_singleton.1 hm) ne_b1_b3)
  replace ow2 := ow2.keep k11 (fun x hx hm => sb_b3_ow2 x hx (List.mem_singleton.1 hm))
  replace hb3 := hb3.keep k11 (fun hm => absurd (List.mem_singleton.1 hm) ne_b2_b3)
  replace o2 := o2.keep k11 (fun x hx hm => sb_b3_o2 x hx (List.mem_singleton.1 hm))
  replace hB := hB.new k11 (fun x hx => .inl ((List.mem_singleton.1 hx) ▸ ge_b3))
  clear z7
  replace hb6 : Bk w11 b3 _ [.int .u64 (hh2 0), .int .u64 (hh2 1), .int .u64 (hh2 2), .int .u64 (hh2 3), .int .u64 (hh2 4)] := hb6
  refine ow_nil (tw_seq (tw_region (ow_g (g_ldab (cs' := [_, _, _, _, _]) ag28 ty28 rfl hb3 rfl rfl) rfl ?_)))
  refine ow_g (g_ldab (cs' := [_, _, _, _, _]) ag28 ty28 rfl hb3 rfl rfl) rfl ?_
  refine ow_d (d_call (vs := [_, _]) rfl (ntimes_any _ _ _ _ E1 E1 _)) rfl ?_
  rintro _ w12 ⟨hh3, rfl, E3, k12⟩
  replace hb1 := hb1.keep0 k12
  replace ow2 := ow2.keep0 k12
  replace hb3 := hb3.keep0 k12
  replace o2 := o2.keep0 k12
  replace hb6 := hb6.keep0 k12
  replace hB := hB.trans k12
  refine ow_d (d_alloc ty28) rfl ?_
  rintro _ w13 ⟨b4, rfl, eb4, hb7, k13, z8⟩
  have ge_b4 : w.heap.size ≤ b4 := by have := hB.size; omega
  have ne_b1_b4 : b1 ≠ b4 := by have := hb1.lt; omega
  have sb_b4_ow2 := fun x hx => (show x ≠ b4 from by have := (ow2.blk x hx).2; omega)
  have ne_b2_b4 : b2 ≠ b4 := by have := hb3.lt; omega
  have sb_b4_o2 := fun x hx => (show x ≠ b4 from by have := (o2.blk x hx).2; omega)
  have ne_b3_b4 : b3 ≠ b4 := by have := hb6.lt; omega
  replace hb1 := hb1.keep0 k13
  replace ow2 := ow2.keep0 k13
  replace hb3 := hb3.keep0 k13
  replace o2 := o2.keep0 k13
  replace hb6 := hb6.keep0 k13
  replace hB := hB.trans k13
  clear eb4 z8
  refine ow_d0 (d_sta ty28 rfl rfl rfl ivF_one hb7 rfl) ?_
  rintro _ w14 ⟨hb8, k14, z9⟩
  replace hb1 := hb1.keep k14 (fun hm => absurd (List.mem_singleton.1 hm) ne_b1_b4)
  replace ow2 := ow2.keep k14 (fun x hx hm => sb_b4_ow2 x hx (List.mem_singleton.1 hm))
  replace hb3 := hb3.keep k14 (fun hm => absurd (List.mem_singleton.1 hm) ne_b2_b4)
  replace o2 := o2.keep k14 (fun x hx hm => sb_b4_o2 x hx (List.mem_singleton.1 hm))
  replace hb6 := hb6.keep k14 (fun hm => absurd (List.mem_singleton.1 hm) ne_b3_b4)
  replace hB := hB.new k14 (fun x hx => .inl ((List.mem_singleton.1 hx) ▸ ge_b4))
  clear z9
  replace hb8 : Bk w14 b4 _ [.int .u64 (hh3 0), .int .u64 (hh3 1), .int .u64 (hh3 2), .int .u64 (hh3 3), .int .u64 (hh3 4)] := hb8
  refine ow_nil (tw_keep [(2, _), (4, _), (6, _), (8, _), (9, _)] ⟨rfl, rfl, rfl, rfl, rfl, trivial⟩ ?_)
  refine tw_seq (tw_plan 17 [0, 1, 5, 7, 2, 3, 4, 6, 8, 9, 10, 11, 12, 13, 14, 15, 16] [2, 3, 4, 6, 8, 9, 10] [] mixed [(9, _), (8, _), (2, _), (4, _), (6, _)] ⟨rfl, rfl, rfl, rfl, rfl, trivial⟩ (by decide +kernel) rfl (fun w15 k15 => ?_))
  replace hb1 := hb1.keep0 k15
  replace ow2 := ow2.keep0 k15
  replace hb3 := hb3.keep0 k15
  replace o2 := o2.keep0 k15
  replace hb6 := hb6.keep0 k15
  replace hb8 := hb8.keep0 k15
  replace hB := hB.trans k15
  refine pw_g [(9, _)] rfl rfl ⟨rfl, trivial⟩ rfl (fun W' kk => g_ldab (cs' := [_, _, _, _, _]) ag28 ty28 rfl (Bk.keep0 hb8 kk) rfl rfl) ?_
  refine pw_g [(8, _)] rfl rfl ⟨rfl, trivial⟩ rfl (fun W' kk => g_ldab (cs' := [_, _, _, _, _]) ag28 ty28 rfl (Bk.keep0 hb6 kk) rfl rfl) ?_
  refine pw_g [(9, _)] rfl rfl ⟨rfl, trivial⟩ rfl (fun W' kk => g_ldab (cs' := [_, _, _, _, _]) ag28 ty28 rfl (Bk.keep0 hb8 kk) rfl rfl) ?_
  refine pw_g [(8, _)] rfl rfl ⟨rfl, trivial⟩ rfl (fun W' kk => g_ldab (cs' := [_, _, _, _, _]) ag28 ty28 rfl (Bk.keep0 hb6 kk) rfl rfl) ?_
  refine pw_d [(46, _), (47, _)] rfl rfl ⟨rfl, rfl, trivial⟩ rfl (d_call (vs := [_, _]) rfl (nminus_any _ _ _ _ E3 E2 _)) ?_
  rintro _ w16 ⟨hh4, rfl, E4, k16⟩
  refine ⟨k16, ?_⟩
  replace hb1 := hb1.keep0 k16
  replace ow2 := ow2.keep0 k16
  replace hb3 := hb3.keep0 k16
  replace o2 := o2.keep0 k16
  replace hb6 := hb6.keep0 k16
  replace hb8 := hb8.keep0 k16
  replace hB := hB.trans k16
  refine pw_d [(48, _)] rfl rfl ⟨rfl, trivial⟩ rfl (d_call (vs := [_]) rfl (nbytes_any _ _ E4 _)) ?_
  rintro v3 w17 ⟨o3, k17⟩
  refine ⟨k17, ?_⟩
  have gl_o3 := hB.size
  have sb_b1_o3 := fun x hx => (show x ≠ b1 from by have h1 := (o3.blk x hx).1; have h2 := hb1.lt; omega)
  have sb_b2_o3 := fun x hx => (show x ≠ b2 from by have h1 := (o3.blk x hx).1; have h2 := hb3.lt; omega)
  have sb_b3_o3 := fun x hx => (show x ≠ b3 from by have h1 := (o3.blk x hx).1; have h2 := hb6.lt; omega)
  have sb_b4_o3 := fun x hx => (show x ≠ b4 from by have h1 := (o3.blk x hx).1; have h2 := hb8.lt; omega)
  replace hb1 := hb1.keep0 k17
  replace ow2 := ow2.keep0 k17
  replace hb3 := hb3.keep0 k17
  replace o2 := o2.keep0 k17
  replace hb6 := hb6.keep0 k17
  replace hb8 := hb8.keep0 k17
  replace hB := hB.trans k17
  have u_o3 := o3.blk
  refine pw_d [] rfl rfl trivial rfl (d_call (vs := []) rfl (pd_any _)) ?_
  rintro _ w18 ⟨hh5, rfl, E5, k18⟩
  refine ⟨k18, ?_⟩
  replace hb1 := hb1.keep0 k18
  replace ow2 := ow2.keep0 k18
  replace hb3 := hb3.keep0 k18
  replace o2 := o2.keep0 k18
  replace hb6 := hb6.keep0 k18
  replace hb8 := hb8.keep0 k18
  replace o3 := o3.keep0 k18
  replace hB := hB.trans k18
  refine pw_d [(50, _), (51, _)] rfl rfl ⟨rfl, rfl, trivial⟩ rfl (d_call (vs := [_, _]) rfl (ntimes_any _ _ _ _ E5 E3 _)) ?_
  rintro _ w19 ⟨hh6, rfl, E6, k19⟩
  refine ⟨k19, ?_⟩
  replace hb1 := hb1.keep0 k19
  replace ow2 := ow2.keep0 k19
  replace hb3 := hb3.keep0 k19
  replace o2 := o2.keep0 k19
  replace hb6 := hb6.keep0 k19
  replace hb8 := hb8.keep0 k19
  replace o3 := o3.keep0 k19
  replace hB := hB.trans k19
  refine pw_d [(52, _), (53, _)] rfl rfl ⟨rfl, rfl, trivial⟩ rfl (d_call (vs := [_, _]) rfl (nplus_any _ _ _ _ E6 E2 _)) ?_
  rintro _ w20 ⟨hh7, rfl, E7, k20⟩
  refine ⟨k20, ?_⟩
  replace hb1 := hb1.keep0 k20
  replace ow2 := ow2.keep0 k20
  replace hb3 := hb3.keep0 k20
  replace o2 := o2.keep0 k20
  replace hb6 := hb6.keep0 k20
  replace hb8 := hb8.keep0 k20
  replace o3 := o3.keep0 k20
  replace hB := hB.trans k20
  refine pw_d [(54, _)] rfl rfl ⟨rfl, trivial⟩ rfl (d_call (vs := [_]) rfl (nbytes_any _ _ E7 _)) ?_
  rintro v4 w21 ⟨o4, k21⟩
  refine ⟨k21, ?_⟩
  have gl_o4 := hB.size
  have sb_b1_o4 := fun x hx => (show x ≠ b1 from by have h1 := (o4.blk x hx).1; have h2 := hb1.lt; omega)
  have sb_b2_o4 := fun x hx => (show x ≠ b2 from by have h1 := (o4.blk x hx).1; have h2 := hb3.lt; omega)
  have sb_b3_o4 := fun x hx => (show x ≠ b3 from by have h1 := (o4.blk x hx).1; have h2 := hb6.lt; omega)
  have sb_b4_o4 := fun x hx => (show x ≠ b4 from by have h1 := (o4.blk x hx).1; have h2 := hb8.lt; omega)
  replace hb1 := hb1.keep0 k21
  replace ow2 := ow2.keep0 k21
  replace hb3 := hb3.keep0 k21
  replace o2 := o2.keep0 k21
  replace hb6 := hb6.keep0 k21
  replace hb8 := hb8.keep0 k21
  replace o3 := o3.keep0 k21
  replace hB := hB.trans k21
  have u_o4 := o4.blk
  refine pw_d [(49, _), (55, _)] rfl rfl ⟨rfl, rfl, trivial⟩ rfl (d_call (vs := [_, _]) rfl (Root_any _ _ (fpB (((fp (leI (decLow xs))) * (fp (leI (decLow xs)))) - (fp 1))) (fpB (((d) * ((fp (leI (decLow xs))) * (fp (leI (decLow xs))))) + (fp 1))) _ o3.rd (fpB_length _) o4.rd (fpB_length _))) ?_
  rintro _ w22 ⟨v5, rfl, o5, k22⟩
  refine ⟨k22, ?_⟩
  have gl_o5 := hB.size
  have sb_b1_o5 := fun x hx => (show x ≠ b1 from by have h1 := (o5.blk x hx).1; have h2 := hb1.lt; omega)
  have sb_b2_o5 := fun x hx => (show x ≠ b2 from by have h1 := (o5.blk x hx).1; have h2 := hb3.lt; omega)
  have sb_b3_o5 := fun x hx => (show x ≠ b3 from by have h1 := (o5.blk x hx).1; have h2 := hb6.lt; omega)
  have sb_b4_o5 := fun x hx => (show x ≠ b4 from by have h1 := (o5.blk x hx).1; have h2 := hb8.lt; omega)
  replace hb1 := hb1.keep0 k22
  replace ow2 := ow2.keep0 k22
  replace hb3 := hb3.keep0 k22
  replace o2 := o2.keep0 k22
  replace hb6 := hb6.keep0 k22
  replace hb8 := hb8.keep0 k22
  replace o3 := o3.keep0 k22
  replace o4 := o4.keep0 k22
  replace hB := hB.trans k22
  have u_o5 := o5.blk
  refine pw_g [(56, _)] rfl rfl ⟨rfl, trivial⟩ rfl (fun W' kk => g_mv rfl) ?_
  refine pw_g [(45, _)] rfl rfl ⟨rfl, trivial⟩ rfl (fun W' kk => g_ext (vs := [_, _, _]) rfl rfl) ?_
  refine pw_g [(45, _)] rfl rfl ⟨rfl, trivial⟩ rfl (fun W' kk => g_ext (vs := [_, _, _]) rfl rfl) ?_
  refine pw_g [(45, _)] rfl rfl ⟨rfl, trivial⟩ rfl (fun W' kk => g_ext (vs := [_, _, _]) rfl rfl) ?_
  refine pw_g [(57, _)] rfl rfl ⟨rfl, trivial⟩ rfl (fun W' kk => g_as rfl) ?_
  refine pw_g [(58, _)] rfl rfl ⟨rfl, trivial⟩ rfl (fun W' kk => g_as rfl) ?_
  refine pw_nil ?_
  refine ow_g (g_as rfl) rfl (ow_nil (tw_keep [(2, _), (4, _), (6, _), (0, _), (10, _)] ⟨rfl, rfl, rfl, rfl, rfl, trivial⟩ ?_))
  refine tw_seq (tw_seq (tw_region (ow_g (g_mv rfl) rfl (ow_g (g_not rfl) rfl ?_))))
  refine ow_g (g_mv rfl) rfl (ow_grp 62 false rfl (fun c1 hgc1 => ?_))
  refine ow_gg [(4, _)] (grd1 rfl rfl rfl hgc1) ⟨und0 rfl, trivial⟩ (fun hw1 => g_mv rfl) rfl ?_
  refine ow_gg [(63, _)] (grd1 rfl rfl rfl hgc1) ⟨und1 rfl, trivial⟩ (fun hw2 => g_mv rfl) rfl ?_
  refine ow_grp2 64 true rfl (fun c2 hgc2 => ?_)
  refine ow_gg [(0, _)] (grd2 rfl rfl rfl hgc2) ⟨und0 rfl, trivial⟩ (fun hw3 => g_mv rfl) rfl ?_
  refine ow_gdk [(65, _)] (grd2 rfl rfl rfl hgc2) ⟨und1 rfl, trivial⟩ (fun hw4 => d_call (vs := [_]) rfl (maxv_any _ (fpB (rootF (fp (leI (fpB (((fp (leI (decLow xs))) * (fp (leI (decLow xs)))) - (fp 1))))) (fp (leI (fpB (((d) * ((fp (leI (decLow xs))) * (fp (leI (decLow xs))))) + (fp 1))))))) _ o5.rd (by rw [fpB_length]; decide))) rfl ?_
  rintro w24 k24
  replace hb1 := hb1.keep0 k24
  replace ow2 := ow2.keep0 k24
  replace hb3 := hb3.keep0 k24
  replace o2 := o2.keep0 k24
  replace o3 := o3.keep0 k24
  replace o4 := o4.keep0 k24
  replace o5 := o5.keep0 k24
  replace hB := hB.trans k24
  refine ow_gg [(66, _)] (grd2 rfl rfl rfl hgc2) ⟨und1 rfl, trivial⟩ (fun hw5 => g_eq rfl rfl) rfl ?_
  refine ow_pand (grd1 rfl rfl rfl hgc1) (und1 rfl) rfl hgc2 rfl ?_
  refine ow_g (g_por rfl rfl hgc1) rfl ?_
  refine ow_nil (tw_keep [(2, _), (4, _), (6, _), (0, _), (69, _)] ⟨rfl, rfl, rfl, rfl, rfl, trivial⟩ ?_)
  refine tw_cond rfl (fun hc2 => ?_) (fun hc2 => ?_)
  ·
   have hd1 := hc2
   try (simp only [Bool.and_eq_true, Bool.or_eq_true, decide_eq_true_eq, Bool.and_eq_false_iff, Bool.or_eq_false_iff, decide_eq_false_iff_not, Bool.not_eq_true', Bool.not_eq_false', Bool.not_eq_true, Bool.not_eq_false, ne_eq, Decidable.not_not, decide_true, decide_false, Bool.true_and, Bool.false_and, Bool.or_false, Bool.false_or, not_true_eq_false, false_or, or_false, true_and, and_true, not_false_eq_true, reduceCtorEq] at hd1)
   refine tw_seq (tw_region (ow_g (g_bld (idx := []) (xs := []) (vs := []) (css := []) (out := [_, _, _, _, _, _, _, _, _, _, _, _, _, _, _, _, _, _, _, _]) pl30 ty30 rfl rfl trivial rfl rfl) rfl ?_))
   refine ow_d0 (d_sta ty30 rfl rfl rfl (by simp only [List.forall_mem_cons]; refine ⟨rfl, rfl, rfl, rfl, rfl, rfl, rfl, rfl, rfl, rfl, rfl, rfl, rfl, rfl, rfl, rfl, rfl, rfl, rfl, rfl, fun v hv => by cases hv⟩) hb1 rfl) ?_
   rintro _ w25 ⟨hb9, k25, z10⟩
   replace ow2 := ow2.keep k25 (fun x hx hm => sb_b1_o1 x hx (List.mem_singleton.1 hm))
   replace hb3 := hb3.keep k25 (fun hm => absurd (List.mem_singleton.1 hm) (Ne.symm ne_b1_b2))
   replace o2 := o2.keep k25 (fun x hx hm => sb_b1_o2 x hx (List.mem_singleton.1 hm))
   replace o3 := o3.keep k25 (fun x hx hm => sb_b1_o3 x hx (List.mem_singleton.1 hm))
   replace o4 := o4.keep k25 (fun x hx hm => sb_b1_o4 x hx (List.mem_singleton.1 hm))
   replace o5 := o5.keep k25 (fun x hx hm => sb_b1_o5 x hx (List.mem_singleton.1 hm))
   replace hB := hB.new k25 (fun x hx => .inl ((List.mem_singleton.1 hx) ▸ ge_b1))
   clear z10
   replace hb9 : Bk w25 b1 _ [.int .u64 0, .int .u64 0, .int .u64 0, .int .u64 0, .int .u64 0, .int .u64 0, .int .u64 0, .int .u64 0, .int .u64 0, .int .u64 0, .int .u64 0, .int .u64 0, .int .u64 0, .int .u64 0, .int .u64 0, .int .u64 0, .int .u64 0, .int .u64 0, .int .u64 0, .int .u64 0] := hb9
   refine ow_g (g_as rfl) rfl (ow_nil (tw_retct hfin Try.results9 rfl (run_loadAgg ag30 ty30 ‹_› rfl) rfl ?_))
   have he := dec_e2 (z := 0) hx hc1 (dec_b h1 rfl rfl hc2)
   exact ⟨fun _ => 0, by rw [he]; rfl, fun h => by rw [he] at h; exact absurd h (by decide), fun _ => rfl, hB⟩
  ·
   have hd2 := hc2
   try (simp only [Bool.and_eq_true, Bool.or_eq_true, decide_eq_true_eq, Bool.and_eq_false_iff, Bool.or_eq_false_iff, decide_eq_false_iff_not, Bool.not_eq_true', Bool.not_eq_false', Bool.not_eq_true, Bool.not_eq_false, ne_eq, Decidable.not_not, decide_true, decide_false, Bool.true_and, Bool.false_and, Bool.or_false, Bool.false_or, not_true_eq_false, false_or, or_false, true_and, and_true, not_false_eq_true, reduceCtorEq] at hd2)
   refine tw_skip (tw_seq (tw_region (ow_g (g_mv rfl) rfl (ow_d (d_call (vs := [_]) rfl (from_any _ (fpB (rootF (fp (leI (fpB (((fp (leI (decLow xs))) * (fp (leI (decLow xs)))) - (fp 1))))) (fp (leI (fpB (((d) * ((fp (leI (decLow xs))) * (fp (leI (decLow xs))))) + (fp 1))))))) _ o5.rd (fpB_length _))) rfl ?_))))
   rintro _ w26 ⟨hh8, rfl, E8, k26⟩
   replace hb1 := hb1.keep0 k26
   replace ow2 := ow2.keep0 k26
   replace hb3 := hb3.keep0 k26
   replace o2 := o2.keep0 k26
   replace o3 := o3.keep0 k26
   replace o4 := o4.keep0 k26
   replace o5 := o5.keep0 k26
   replace hB := hB.trans k26
   refine ow_g (g_mv rfl) rfl (ow_g (g_ext (vs := [_, _]) rfl rfl) rfl ?_)
   refine ow_g (g_ext (vs := [_, _]) rfl rfl) rfl ?_
   refine ow_d (d_alloc ty28) rfl ?_
   rintro _ w27 ⟨b5, rfl, eb5, hb10, k27, z11⟩
   have ge_b5 : w.heap.size ≤ b5 := by have := hB.size; omega
   have ne_b1_b5 : b1 ≠ b5 := by have := hb1.lt; omega
   have sb_b5_ow2 := fun x hx => (show x ≠ b5 from by have := (ow2.blk x hx).2; omega)
   have ne_b2_b5 : b2 ≠ b5 := by have := hb3.lt; omega
   have sb_b5_o2 := fun x hx => (show x ≠ b5 from by have := (o2.blk x hx).2; omega)
   have sb_b5_o3 := fun x hx => (show x ≠ b5 from by have := (o3.blk x hx).2; omega)
   have sb_b5_o4 := fun x hx => (show x ≠ b5 from by have := (o4.blk x hx).2; omega)
   have sb_b5_o5 := fun x hx => (show x ≠ b5 from by have := (o5.blk x hx).2; omega)
   replace hb1 := hb1.keep0 k27
   replace ow2 := ow2.keep0 k27
   replace hb3 := hb3.keep0 k27
   replace o2 := o2.keep0 k27
   replace o3 := o3.keep0 k27
   replace o4 := o4.keep0 k27
   replace o5 := o5.keep0 k27
   replace hB := hB.trans k27
   clear eb5 z11
   refine ow_d0 (d_sta ty28 rfl rfl rfl ivF_one hb10 rfl) ?_
   rintro _ w28 ⟨hb11, k28, z12⟩
   replace hb1 := hb1.keep k28 (fun hm => absurd (List.mem_singleton.1 hm) ne_b1_b5)
   replace ow2 := ow2.keep k28 (fun x hx hm => sb_b5_ow2 x hx (List.mem_singleton.1 hm))
   replace hb3 := hb3.keep k28 (fun hm => absurd (List.mem_singleton.1 hm) ne_b2_b5)
   replace o2 := o2.keep k28 (fun x hx hm => sb_b5_o2 x hx (List.mem_singleton.1 hm))
   replace o3 := o3.keep k28 (fun x hx hm => sb_b5_o3 x hx (List.mem_singleton.1 hm))
   replace o4 := o4.keep k28 (fun x hx hm => sb_b5_o4 x hx (List.mem_singleton.1 hm))
   replace o5 := o5.keep k28 (fun x hx hm => sb_b5_o5 x hx (List.mem_singleton.1 hm))
   replace hB := hB.new k28 (fun x hx => .inl ((List.mem_singleton.1 hx) ▸ ge_b5))
   clear z12
   replace hb11 : Bk w28 b5 _ [.int .u64 (hh8 0), .int .u64 (hh8 1), .int .u64 (hh8 2), .int .u64 (hh8 3), .int .u64 (hh8 4)] := hb11
   refine ow_g (g_as rfl) rfl (ow_nil (tw_seq (tw_seq (tw_region (ow_g (g_mv rfl) rfl (ow_nil ?_))))))
   refine tw_if rfl (fun hc3 => ?_) (fun hc3 => ?_)
   ·
    refine tw_region (ow_g (g_bld (idx := []) (xs := []) (vs := []) (css := []) (out := [_, _, _, _, _]) pl28 ty28 rfl rfl trivial rfl rfl) rfl ?_)
    refine ow_g (g_ldab (cs' := [_, _, _, _, _]) ag28 ty28 rfl hb11 rfl rfl) rfl ?_
    refine ow_d (d_call (vs := [_, _]) rfl (nminus_any _ _ _ _ el_zero E8 _)) rfl ?_
    rintro _ w29 ⟨hh9, rfl, E9, k29⟩
    replace hb1 := hb1.keep0 k29
    replace ow2 := ow2.keep0 k29
    replace hb3 := hb3.keep0 k29
    replace o2 := o2.keep0 k29
    replace o3 := o3.keep0 k29
    replace o4 := o4.keep0 k29
    replace o5 := o5.keep0 k29
    replace hb11 := hb11.keep0 k29
    replace hB := hB.trans k29
    refine ow_d0 (d_sta ty28 rfl rfl rfl ivF_one hb11 rfl) ?_
    rintro _ w30 ⟨hb12, k30, z13⟩
    replace hb1 := hb1.keep k30 (fun hm => absurd (List.mem_singleton.1 hm) ne_b1_b5)
    replace ow2 := ow2.keep k30 (fun x hx hm => sb_b5_ow2 x hx (List.mem_singleton.1 hm))
    replace hb3 := hb3.keep k30 (fun hm => absurd (List.mem_singleton.1 hm) ne_b2_b5)
    replace o2 := o2.keep k30 (fun x hx hm => sb_b5_o2 x hx (List.mem_singleton.1 hm))
    replace o3 := o3.keep k30 (fun x hx hm => sb_b5_o3 x hx (List.mem_singleton.1 hm))
    replace o4 := o4.keep k30 (fun x hx hm => sb_b5_o4 x hx (List.mem_singleton.1 hm))
    replace o5 := o5.keep k30 (fun x hx hm => sb_b5_o5 x hx (List.mem_singleton.1 hm))
    replace hB := hB.new k30 (fun x hx => .inl ((List.mem_singleton.1 hx) ▸ ge_b5))
    clear z13
    replace hb12 : Bk w30 b5 _ [.int .u64 (hh9 0), .int .u64 (hh9 1), .int .u64 (hh9 2), .int .u64 (hh9 3), .int .u64 (hh9 4)] := hb12
    refine ow_nil (tw_keep [(2, _), (6, _), (12, _)] ⟨rfl, rfl, rfl, trivial⟩ ?_)
    refine tw_seq (tw_region (ow_g (g_ldab (cs' := [_, _, _, _, _]) ag28 ty28 rfl hb12 rfl rfl) rfl ?_))
    refine ow_g (g_ldab (cs' := [_, _, _, _, _]) ag28 ty28 rfl hb3 rfl rfl) rfl ?_
    refine ow_d (d_call (vs := [_, _]) rfl (affine_any _ _ _ _ E9 E1 _)) rfl ?_
    rintro _ w31 ⟨hh10, rfl, E10, k31⟩
    replace hb1 := hb1.keep0 k31
    replace ow2 := ow2.keep0 k31
    replace hb3 := hb3.keep0 k31
    replace o2 := o2.keep0 k31
    replace o3 := o3.keep0 k31
    replace o4 := o4.keep0 k31
    replace o5 := o5.keep0 k31
    replace hb12 := hb12.keep0 k31
    replace hB := hB.trans k31
    refine ow_d0 (d_sta ty30 rfl rfl rfl ivF_one hb1 rfl) ?_
    rintro _ w32 ⟨hb13, k32, z14⟩
    replace ow2 := ow2.keep k32 (fun x hx hm => sb_b1_o1 x hx (List.mem_singleton.1 hm))
    replace hb3 := hb3.keep k32 (fun hm => absurd (List.mem_singleton.1 hm) (Ne.symm ne_b1_b2))
    replace o2 := o2.keep k32 (fun x hx hm => sb_b1_o2 x hx (List.mem_singleton.1 hm))
    replace o3 := o3.keep k32 (fun x hx hm => sb_b1_o3 x hx (List.mem_singleton.1 hm))
    replace o4 := o4.keep k32 (fun x hx hm => sb_b1_o4 x hx (List.mem_singleton.1 hm))
    replace o5 := o5.keep k32 (fun x hx hm => sb_b1_o5 x hx (List.mem_singleton.1 hm))
    replace hb12 := hb12.keep k32 (fun hm => absurd (List.mem_singleton.1 hm) (Ne.symm ne_b1_b5))
    replace hB := hB.new k32 (fun x hx => .inl ((List.mem_singleton.1 hx) ▸ ge_b1))
    clear z14
    replace hb13 : Bk w32 b1 _ [.int .u64 (hh10 0), .int .u64 (hh10 1), .int .u64 (hh10 2), .int .u64 (hh10 3), .int .u64 (hh10 4), .int .u64 (hh10 5), .int .u64 (hh10 6), .int .u64 (hh10 7), .int .u64 (hh10 8), .int .u64 (hh10 9), .int .u64 (hh10 10), .int .u64 (hh10 11), .int .u64 (hh10 12), .int .u64 (hh10 13), .int .u64 (hh10 14), .int .u64 (hh10 15), .int .u64 (hh10 16), .int .u64 (hh10 17), .int .u64 (hh10 18), .int .u64 (hh10 19)] := hb13
    refine ow_g (g_as rfl) rfl (ow_nil (tw_retct hfin Try.results9 rfl (run_loadAgg ag30 ty30 ‹_› rfl) rfl ?_))
    have he := dec_e0 (z := 0) hx hc1 (dec_b h1 rfl rfl hc2)
    exact ⟨hh10, by rw [he]; rfl, fun _ => (by rw [dec_xT h1 rfl rfl hc3]; exact E10), fun h => absurd he h, hB⟩
   ·
    refine tw_skip (tw_seq (tw_region (ow_g (g_ldab (cs' := [_, _, _, _, _]) ag28 ty28 rfl hb11 rfl rfl) rfl ?_)))
    refine ow_g (g_ldab (cs' := [_, _, _, _, _]) ag28 ty28 rfl hb3 rfl rfl) rfl ?_
    refine ow_d (d_call (vs := [_, _]) rfl (affine_any _ _ _ _ E8 E1 _)) rfl ?_
    rintro _ w33 ⟨hh11, rfl, E11, k33⟩
    replace hb1 := hb1.keep0 k33
    replace ow2 := ow2.keep0 k33
    replace hb3 := hb3.keep0 k33
    replace o2 := o2.keep0 k33
    replace o3 := o3.keep0 k33
    replace o4 := o4.keep0 k33
    replace o5 := o5.keep0 k33
    replace hb11 := hb11.keep0 k33
    replace hB := hB.trans k33
    refine ow_d0 (d_sta ty30 rfl rfl rfl ivF_one hb1 rfl) ?_
    rintro _ w34 ⟨hb14, k34, z15⟩
    replace ow2 := ow2.keep k34 (fun x hx hm => sb_b1_o1 x hx (List.mem_singleton.1 hm))
    replace hb3 := hb3.keep k34 (fun hm => absurd (List.mem_singleton.1 hm) (Ne.symm ne_b1_b2))
    replace o2 := o2.keep k34 (fun x hx hm => sb_b1_o2 x hx (List.mem_singleton.1 hm))
    replace o3 := o3.keep k34 (fun x hx hm => sb_b1_o3 x hx (List.mem_singleton.1 hm))
    replace o4 := o4.keep k34 (fun x hx hm => sb_b1_o4 x hx (List.mem_singleton.1 hm))
    replace o5 := o5.keep k34 (fun x hx hm => sb_b1_o5 x hx (List.mem_singleton.1 hm))
    replace hb11 := hb11.keep k34 (fun hm => absurd (List.mem_singleton.1 hm) (Ne.symm ne_b1_b5))
    replace hB := hB.new k34 (fun x hx => .inl ((List.mem_singleton.1 hx) ▸ ge_b1))
    clear z15
    replace hb14 : Bk w34 b1 _ [.int .u64 (hh11 0), .int .u64 (hh11 1), .int .u64 (hh11 2), .int .u64 (hh11 3), .int .u64 (hh11 4), .int .u64 (hh11 5), .int .u64 (hh11 6), .int .u64 (hh11 7), .int .u64 (hh11 8), .int .u64 (hh11 9), .int .u64 (hh11 10), .int .u64 (hh11 11), .int .u64 (hh11 12), .int .u64 (hh11 13), .int .u64 (hh11 14), .int .u64 (hh11 15), .int .u64 (hh11 16), .int .u64 (hh11 17), .int .u64 (hh11 18), .int .u64 (hh11 19)] := hb14
    refine ow_g (g_as rfl) rfl (ow_nil (tw_keep [(2, _), (3, _)] ⟨rfl, rfl, trivial⟩ ?_))
    refine tw_retct hfin Try.results9 rfl (run_loadAgg ag30 ty30 ‹_› rfl) rfl ?_
    have he := dec_e0 (z := 0) hx hc1 (dec_b h1 rfl rfl hc2)
    exact ⟨hh11, by rw [he]; rfl, fun _ => (by rw [dec_xF h1 rfl rfl hc3]; exact E11), fun h => absurd he h, hB⟩
end Go.Proofs.Ytkngeapegpehpaa.W
namespace Go.Proofs.Ytkngeapegpehpaa.W
open Go Go.Eng Go.Byt
set_option linter.unusedVariables false
set_option linter.unusedSimpArgs false
open Go.Fld Go.Ed
set_option maxRecDepth 100000 in
set_option maxHeartbeats 1000000 in
theorem Pdecode_no (v : Value) (xs : List UInt8) (w : World) (hv : RdB w v xs) (hx : xs.length ≠ 32) : Rets Try.prog 9 [v] w (fun v w' => v = .tuple #[.agg (iv .u64 20 (fun _ => 0)).toArray, .int .i64 1] ∧ Keep [] w w') := by
 have hB : Keep [] w w := Keep.refl _ _
 refine rets_of_tw Try.func9 rfl (by decide) Try.ntmps9 rfl (fun fin _ hfin => ?_)
 refine tw_seq (tw_region (ow_d (d_alloc ty30) rfl ?_))
 rintro _ w1 ⟨b1, rfl, eb1, hb1, k1, z1⟩
 have ge_b1 : w.heap.size ≤ b1 := by have := hB.size; omega
 replace hB := hB.trans k1
 clear eb1 z1
 refine ow_g (g_as rfl) rfl (ow_nil (tw_seq (tw_seq (tw_region (ow_g (g_mv rfl) rfl (ow_g (g_len Try.underlying22 rfl (by first | assumption | exact Own.rd ‹_› | exact Rd.keep0 ‹_› hB | exact Own.rd (Own.keep0 ‹_› hB))) rfl ?_))))))
 refine ow_g (g_ne rfl rfl) rfl ?_
 refine ow_nil (tw_ifT rfl (by omega) ?_)
 refine tw_seq (tw_region (ow_g (g_bld (idx := []) (xs := []) (vs := []) (css := []) (out := [_, _, _, _, _, _, _, _, _, _, _, _, _, _, _, _, _, _, _, _]) pl30 ty30 rfl rfl trivial rfl rfl) rfl ?_))
 refine ow_d0 (d_sta ty30 rfl rfl rfl (by simp only [List.forall_mem_cons]; refine ⟨rfl, rfl, rfl, rfl, rfl, rfl, rfl, rfl, rfl, rfl, rfl, rfl, rfl, rfl, rfl, rfl, rfl, rfl, rfl, rfl, fun v hv => by cases hv⟩) hb1 rfl) ?_
 rintro _ w2 ⟨hb2, k2, z2⟩
 replace hB := hB.new k2 (fun x hx => .inl ((List.mem_singleton.1 hx) ▸ ge_b1))
 clear z2
 replace hb2 : Bk w2 b1 _ [.int .u64 0, .int .u64 0, .int .u64 0, .int .u64 0, .int .u64 0, .int .u64 0, .int .u64 0, .int .u64 0, .int .u64 0, .int .u64 0, .int .u64 0, .int .u64 0, .int .u64 0, .int .u64 0, .int .u64 0, .int .u64 0, .int .u64 0, .int .u64 0, .int .u64 0, .int .u64 0] := hb2
 refine ow_g (g_as rfl) rfl (ow_nil (tw_retct hfin Try.results9 rfl (run_loadAgg ag30 ty30 ‹_› rfl) rfl ?_))
 exact ⟨rfl, hB⟩
def baseB : List UInt8 := [88, 102, 102, 102, 102, 102, 102, 102, 102, 102, 102, 102, 102, 102, 102, 102, 102, 102, 102, 102, 102, 102, 102, 102, 102, 102, 102, 102, 102, 102, 102, 102]
def basePt : Pt := (⟨15112221349535400772501151409588531511454012693041857206046113283949847762202, by decide⟩, ⟨46316835694926478169428394003475163141307993866256225615783033603165251855960, by decide⟩)
theorem base_low : decLow baseB = baseB := by decide +kernel
theorem base_y : decY baseB = basePt.2 := by unfold decY; rw [base_low]; decide +kernel
theorem baseB_set : (bv (repN 102 32)).set 0 (.int .u8 88) = bv baseB := by
  rw [bv_setB (by decide)]; congr 1
def bU : Fp := (⟨37053468555941182535542715202780130513046395093004980492626426882532201484767, by decide⟩ : Fp)
def bV : Fp := (⟨35320460721920060721965471946471712506633951349663716574434581141966314745466, by decide⟩ : Fp)
def bI : Fp := (⟨36615873626505047815401509688526422966742341385236691817538452001808239043262, by decide⟩ : Fp)
def bQ : Fp := (⟨26187595835145689230469591415084376402084551887632582719101735842039498021991, by decide⟩ : Fp)
def bR : Fp := (⟨42783823269122696939284341094755422415180979639778424813682678720006717057747, by decide⟩ : Fp)
def bS : Fp := (⟨42783823269122696939284341094755422415180979639778424813682678720006717057747, by decide⟩ : Fp)
theorem base_U : decU basePt.2 = bU := by decide +kernel
theorem base_V : decV basePt.2 = bV := by decide +kernel
theorem base_Q : bU * inv bV = bQ := by rw [inv_unique (show bV * bI = 1 by decide +kernel)]; decide +kernel
theorem base_r0 : root0 bQ = bR := Fin.ext (by unfold root0; rw [fpow_pw _ _ (by decide)]; decide +kernel)
theorem base_r1 : root1 bQ = bS := by
  unfold root1
  rw [base_r0]
  rw [if_pos (by decide +kernel)]; decide +kernel
theorem base_ok : rootOk bU bV = true := by unfold rootOk; rw [base_Q, base_r1]; decide +kernel
theorem base_F : rootF bU bV = basePt.1 := by unfold rootF; rw [base_ok, base_Q, base_r1]; decide +kernel
theorem base_E : decE baseB = 0 := by
  have hl : ¬ baseB.length ≠ 32 := by decide
  have ho : decOdd baseB = false := by decide +kernel
  unfold decE
  rw [if_neg hl, base_y, base_low, if_neg (by decide +kernel), base_U, base_V, base_ok, ho]; rfl
theorem base_X : decX baseB = basePt.1 := by
  have ho : decOdd baseB = false := by decide +kernel
  unfold decX
  rw [ho, base_y, base_U, base_V, base_F]; rfl
theorem Pdecode_base (v : Value) (w : World) (hv : RdB w v baseB) : Rets Try.prog 9 [v] w (fun v w' => ∃ p, v = .tuple #[.agg (iv .u64 20 p).toArray, .int .i64 0] ∧ PtR p basePt ∧ Keep [] w w') :=
  (Pdecode_32 v baseB w hv (by decide)).mono fun r w' ⟨p, e, h, _, k⟩ => ⟨p, by rw [e, base_E], by have := h base_E; rw [base_X, base_y] at this; exact ptr_affine this, k⟩
set_option maxRecDepth 100000 in
set_option maxHeartbeats 1000000 in
theorem Pbase_any (w : World) : Rets Try.prog 18 [] w (fun v w' => ∃ p, v = .agg (iv .u64 20 p).toArray ∧ PtR p basePt ∧ Keep [] w w') := by
 have hB : Keep [] w w := Keep.refl _ _
 refine rets_of_tw Try.func18 rfl (by decide) Try.ntmps18 rfl (fun fin _ hfin => ?_)
 refine tw_seq (tw_region (ow_d (d_alloc ty30) rfl ?_))
 rintro _ w1 ⟨b1, rfl, eb1, hb1, k1, z1⟩
 have ge_b1 : w.heap.size ≤ b1 := by have := hB.size; omega
 replace hB := hB.trans k1
 clear eb1 z1
 refine ow_nil (tw_seq (tw_region (ow_d (d_bs (m := 1) (xs := [.const (.int .u8 (102))]) (vs := [_]) Try.underlying22 ty5 (by decide) rfl rfl rfl (by first | (simp; done) | (intro v hv; rw [List.mem_singleton] at hv; subst hv; rfl)) (by decide)) rfl ?_)))
 rintro v1 w2 ⟨o1, nn1, lb1, k2, z2⟩
 have gl_o1 := hB.size
 have sb_b1_o1 := fun x hx => (show x ≠ b1 from by have h1 := (o1.blk x hx).1; have h2 := hb1.lt; omega)
 replace hb1 := hb1.keep0 k2
 replace hB := hB.trans k2
 have u_o1 := o1.blk
 replace o1 : Own w2 _ _ 1 v1 1 (bv [102]) := o1
 refine ow_d (d_call (vs := [_, _]) rfl (repeat_any _ 102 _ (o1).rd)) rfl ?_
 rintro v2 w3 ⟨o2, k3⟩
 have gl_o2 := hB.size
 have sb_b1_o2 := fun x hx => (show x ≠ b1 from by have h1 := (o2.blk x hx).1; have h2 := hb1.lt; omega)
 replace hb1 := hb1.keep0 k3
 replace o1 := o1.keep0 k3
 replace hB := hB.trans k3
 have u_o2 := o2.blk
 refine ow_g (g_as rfl) rfl (ow_nil (tw_seq (tw_region (ow_g (g_mv rfl) rfl (ow_g (g_ix Try.underlying22 ty5 rfl (by first | assumption | exact Own.rd ‹_› | exact Rd.keep0 ‹_› hB | exact Own.rd (Own.keep0 ‹_› hB)) rfl (by omega)) rfl ?_)))))
 refine ow_d0 (d_sto (u := .int .u8 88) ty5 rfl rfl rfl o2 (by decide)) ?_
 rintro _ w99 ⟨ow2, k99, z99⟩
 replace hB := hB.new k99 (fun x hx => .inl (Nat.le_trans gl_o2 (o2.blk x hx).1))
 replace ow2 : OwnB w99 w.heap.size v2 baseB := by have e := ow2.lo gl_o2; rw [show (0 : Int).toNat * 1 = 0 from rfl, baseB_set] at e; exact e
 replace hb1 := hb1.keep k99 (fun hm => sb_b1_o2 _ hm rfl)
 refine ow_nil (tw_seq (tw_region (ow_g (g_mv rfl) rfl (ow_d (d_call (vs := [_]) rfl (Pdecode_base _ _ ow2.rd)) rfl ?_))))
 rintro _ w4 ⟨hh1, rfl, E1, k4⟩
 replace hb1 := hb1.keep0 k4
 replace ow2 := ow2.keep0 k4
 replace hB := hB.trans k4
 refine ow_g (g_mv rfl) rfl (ow_g (g_ext (vs := [_, _]) rfl rfl) rfl ?_)
 refine ow_g (g_ext (vs := [_, _]) rfl rfl) rfl ?_
 refine ow_d (d_alloc ty30) rfl ?_
 rintro _ w5 ⟨b2, rfl, eb2, hb2, k5, z3⟩
 have ge_b2 : w.heap.size ≤ b2 := by have := hB.size; omega
 have ne_b1_b2 : b1 ≠ b2 := by have := hb1.lt; omega
 have sb_b2_ow2 := fun x hx => (show x ≠ b2 from by have := (ow2.blk x hx).2; omega)
 replace hb1 := hb1.keep0 k5
 replace ow2 := ow2.keep0 k5
 replace hB := hB.trans k5
 clear eb2 z3
 refine ow_d0 (d_sta ty30 rfl rfl rfl ivF_one hb2 rfl) ?_
 rintro _ w6 ⟨hb3, k6, z4⟩
 replace hb1 := hb1.keep k6 (fun hm => absurd (List.mem_singleton.1 hm) ne_b1_b2)
 replace ow2 := ow2.keep k6 (fun x hx hm => sb_b2_ow2 x hx (List.mem_singleton.1 hm))
 replace hB := hB.new k6 (fun x hx => .inl ((List.mem_singleton.1 hx) ▸ ge_b2))
 clear z4
 replace hb3 : Bk w6 b2 _ [.int .u64 (hh1 0), .int .u64 (hh1 1), .int .u64 (hh1 2), .int .u64 (hh1 3), .int .u64 (hh1 4), .int .u64 (hh1 5), .int .u64 (hh1 6), .int .u64 (hh1 7), .int .u64 (hh1 8), .int .u64 (hh1 9), .int .u64 (hh1 10), .int .u64 (hh1 11), .int .u64 (hh1 12), .int .u64 (hh1 13), .int .u64 (hh1 14), .int .u64 (hh1 15), .int .u64 (hh1 16), .int .u64 (hh1 17), .int .u64 (hh1 18), .int .u64 (hh1 19)] := hb3
 refine ow_g (g_as rfl) rfl (ow_nil (tw_keep [(0, _), (2, _)] ⟨rfl, rfl, trivial⟩ ?_))
 refine tw_seq (tw_region (ow_g (g_ldab (cs' := [_, _, _, _, _, _, _, _, _, _, _, _, _, _, _, _, _, _, _, _]) ag30 ty30 rfl hb3 rfl rfl) rfl ?_))
 refine ow_d0 (d_sta ty30 rfl rfl rfl (by simp only [List.forall_mem_cons]; refine ⟨rfl, rfl, rfl, rfl, rfl, rfl, rfl, rfl, rfl, rfl, rfl, rfl, rfl, rfl, rfl, rfl, rfl, rfl, rfl, rfl, fun v hv => by cases hv⟩) hb1 rfl) ?_
 rintro _ w7 ⟨hb4, k7, z5⟩
 replace ow2 := ow2.keep k7 (fun x hx hm => sb_b1_o2 x hx (List.mem_singleton.1 hm))
 replace hb3 := hb3.keep k7 (fun hm => absurd (List.mem_singleton.1 hm) (Ne.symm ne_b1_b2))
 replace hB := hB.new k7 (fun x hx => .inl ((List.mem_singleton.1 hx) ▸ ge_b1))
 clear z5
 replace hb4 : Bk w7 b1 _ [.int .u64 (hh1 0), .int .u64 (hh1 1), .int .u64 (hh1 2), .int .u64 (hh1 3), .int .u64 (hh1 4), .int .u64 (hh1 5), .int .u64 (hh1 6), .int .u64 (hh1 7), .int .u64 (hh1 8), .int .u64 (hh1 9), .int .u64 (hh1 10), .int .u64 (hh1 11), .int .u64 (hh1 12), .int .u64 (hh1 13), .int .u64 (hh1 14), .int .u64 (hh1 15), .int .u64 (hh1 16), .int .u64 (hh1 17), .int .u64 (hh1 18), .int .u64 (hh1 19)] := hb4
 refine ow_nil (tw_retc hfin Try.results18 rfl (run_loadAgg ag30 ty30 ‹_› rfl)  ?_)
 exact ⟨hh1, rfl, E1, hB⟩
end Go.Proofs.Ytkngeapegpehpaa.W
namespace Go.Proofs.Ytkngeapegpehpaa.W
open Go Go.Eng Go.Byt
set_option linter.unusedVariables false
set_option linter.unusedSimpArgs false
open Go.Fld Go.Ed
attribute [local irreducible] encB
theorem PzeroR (w : World) : Rets Try.prog 15 [] w (fun v w' => ∃ r, v = .agg (iv .u64 20 r).toArray ∧ PtR r zero ∧ Keep [] w w') :=
  (Pzero_any w).mono fun v w' ⟨r, e, h', k⟩ => ⟨r, e, ptr_zero h', k⟩
theorem mul_inv_r {x Z : Fp} (hz : Z ≠ 0) : x * Z * inv Z = x := by
  have := mul_inv hz
  generalize inv Z = i at *
  grind -lia -linarith
theorem PencodeR {p : Nat → Int} {a : Pt} (hp : PtR p a) (w : World) : Rets Try.prog 16 [.agg (iv .u64 20 p).toArray] w (fun v w' => OwnB w' w.heap.size v (encB a.1 a.2) ∧ Keep [] w w') := by
  obtain ⟨Z, hz, hp⟩ := hp
  have h := Pencode_any p _ _ _ _ hp hz w
  rw [mul_inv_r hz, mul_inv_r hz] at h
  exact h
end Go.Proofs.Ytkngeapegpehpaa.W
namespace Go.Proofs.Ytkngeapegpehpaa.W
open Go Go.Eng Go.Byt
set_option linter.unusedVariables false
set_option linter.unusedSimpArgs false
open Go.Fld Go.Ed
end Go.Proofs.Ytkngeapegpehpaa.W
namespace Go.Proofs.Ytkngeapegpehpaa.W
open Go Go.Eng Go.Byt
set_option linter.unusedVariables false
set_option linter.unusedSimpArgs false
open Go.Fld Go.Ed
attribute [local irreducible] encB
set_option maxRecDepth 100000 in
set_option maxHeartbeats 1000000 in
theorem num_any (e : Int) (w : World) : Rets Try.prog 11 [.int .i64 e] w (fun r w' => r = .int .i64 e ∧ w = w') := by
 refine rets_of_tw Try.func11 rfl (by decide) Try.ntmps11 rfl (fun fin _ hfin => ?_)
 refine tw_seq (tw_region (ow_g (g_as rfl) rfl (ow_nil (tw_seq (tw_region (ow_g (g_mv rfl) rfl ?_))))))
 refine ow_g (g_as rfl) rfl (ow_nil (tw_ret1 hfin Try.results11 rfl ?_))
 exact ⟨rfl, rfl⟩
def zeroB : List UInt8 := 1 :: List.replicate 31 0
theorem enc_base : encB basePt.1 basePt.2 = baseB := by unfold encB; decide +kernel
theorem enc_zero : encB zero.1 zero.2 = zeroB := by unfold encB; decide +kernel
theorem PencBase {p : Nat → Int} (hp : PtR p basePt) (w : World) : Rets Try.prog 16 [.agg (iv .u64 20 p).toArray] w (fun v w' => Own w' w.heap.size 5 1 v 32 (bv baseB) ∧ Keep [] w w') := by
  have h := PencodeR hp w
  rw [enc_base] at h; exact h
theorem PencZero {p : Nat → Int} (hp : PtR p zero) (w : World) : Rets Try.prog 16 [.agg (iv .u64 20 p).toArray] w (fun v w' => Own w' w.heap.size 5 1 v 32 (bv zeroB) ∧ Keep [] w w') := by
  have h := PencodeR hp w
  rw [enc_zero] at h; exact h
set_option maxRecDepth 100000 in
set_option maxHeartbeats 1000000 in
theorem knows_any (w : World) : Rets Try.prog 13 [] w (fun r w' => r = .bool true ∧ Keep [] w w') := by
 have hB : Keep [] w w := Keep.refl _ _
 refine rets_of_tw Try.func13 rfl (by decide) Try.ntmps13 rfl (fun fin _ hfin => ?_)
 refine tw_seq (tw_region (ow_g (g_as rfl) rfl (ow_nil (tw_seq (tw_region (ow_d (d_call (vs := []) rfl (Pbase_any _)) rfl ?_))))))
 rintro _ w1 ⟨hh1, rfl, E1, k1⟩
 replace hB := hB.trans k1
 refine ow_d (d_call (vs := [_]) rfl (PencBase E1 _)) rfl ?_
 rintro v1 w2 ⟨o1, k2⟩
 have gl_o1 := hB.size
 replace hB := hB.trans k2
 have u_o1 := o1.blk
 refine ow_g (g_as rfl) rfl (ow_nil (tw_seq (tw_region (ow_d (d_call (vs := []) rfl (PzeroR _)) rfl ?_))))
 rintro _ w3 ⟨hh2, rfl, E2, k3⟩
 replace o1 := o1.keep0 k3
 replace hB := hB.trans k3
 refine ow_d (d_call (vs := [_]) rfl (PencZero E2 _)) rfl ?_
 rintro v2 w4 ⟨o2, k4⟩
 have gl_o2 := hB.size
 replace o1 := o1.keep0 k4
 replace hB := hB.trans k4
 have u_o2 := o2.blk
 refine ow_g (g_as rfl) rfl (ow_nil (tw_seq (tw_region (ow_d (d_call (vs := [_]) rfl (Pdecode_no _ [] _ (Rd.nil _ _) (by decide))) rfl ?_))))
 rintro _ w5 ⟨rfl, k5⟩
 replace o1 := o1.keep0 k5
 replace o2 := o2.keep0 k5
 replace hB := hB.trans k5
 refine ow_g (g_mv rfl) rfl (ow_g (g_ext (vs := [_, _]) rfl rfl) rfl ?_)
 refine ow_g (g_ext (vs := [_, _]) rfl rfl) rfl ?_
 refine ow_d (d_alloc ty30) rfl ?_
 rintro _ w6 ⟨b1, rfl, eb1, hb1, k6, z1⟩
 have ge_b1 : w.heap.size ≤ b1 := by have := hB.size; omega
 have sb_b1_o1 := fun x hx => (show x ≠ b1 from by have := (o1.blk x hx).2; omega)
 have sb_b1_o2 := fun x hx => (show x ≠ b1 from by have := (o2.blk x hx).2; omega)
 replace o1 := o1.keep0 k6
 replace o2 := o2.keep0 k6
 replace hB := hB.trans k6
 clear eb1 z1
 refine ow_d0 (d_sta ty30 rfl rfl rfl ivF_one hb1 rfl) ?_
 rintro _ w7 ⟨hb2, k7, z2⟩
 replace o1 := o1.keep k7 (fun x hx hm => sb_b1_o1 x hx (List.mem_singleton.1 hm))
 replace o2 := o2.keep k7 (fun x hx hm => sb_b1_o2 x hx (List.mem_singleton.1 hm))
 replace hB := hB.new k7 (fun x hx => .inl ((List.mem_singleton.1 hx) ▸ ge_b1))
 clear z2
 replace hb2 : Bk w7 b1 _ [.int .u64 ((fun _ => 0) 0), .int .u64 ((fun _ => 0) 1), .int .u64 ((fun _ => 0) 2), .int .u64 ((fun _ => 0) 3), .int .u64 ((fun _ => 0) 4), .int .u64 ((fun _ => 0) 5), .int .u64 ((fun _ => 0) 6), .int .u64 ((fun _ => 0) 7), .int .u64 ((fun _ => 0) 8), .int .u64 ((fun _ => 0) 9), .int .u64 ((fun _ => 0) 10), .int .u64 ((fun _ => 0) 11), .int .u64 ((fun _ => 0) 12), .int .u64 ((fun _ => 0) 13), .int .u64 ((fun _ => 0) 14), .int .u64 ((fun _ => 0) 15), .int .u64 ((fun _ => 0) 16), .int .u64 ((fun _ => 0) 17), .int .u64 ((fun _ => 0) 18), .int .u64 ((fun _ => 0) 19)] := hb2
 refine ow_g (g_as rfl) rfl (ow_nil (tw_keep [(1, _), (2, _), (4, _)] ⟨rfl, rfl, rfl, trivial⟩ ?_))
 refine tw_seq (tw_region (ow_g (g_mv rfl) rfl (ow_g (g_len Try.underlying22 rfl (by first | assumption | exact Own.rd ‹_› | exact Rd.keep0 ‹_› hB | exact Own.rd (Own.keep0 ‹_› hB))) rfl ?_)))
 refine ow_g (g_eq rfl rfl) rfl ?_
 refine ow_g (g_mv rfl) rfl (ow_grp 16 true rfl (fun c1 hgc1 => ?_))
 refine ow_gg [(1, _)] (grd1 rfl rfl rfl hgc1) ⟨und0 rfl, trivial⟩ (fun hw1 => g_mv rfl) rfl ?_
 refine ow_gg [(17, _)] (grd1 rfl rfl rfl hgc1) ⟨und1 rfl, trivial⟩ (fun hw2 => g_ix Try.underlying22 ty5 rfl (by first | assumption | exact Own.rd ‹_› | exact Rd.keep0 ‹_› hB | exact Own.rd (Own.keep0 ‹_› hB)) rfl (by omega)) rfl ?_
 refine ow_gg [(18, _)] (grd1 rfl rfl rfl hgc1) ⟨und1 rfl, trivial⟩ (fun hw3 => g_ldB sc5 rfl (by first | assumption | exact Own.rd ‹_›) (by decide)) rfl ?_
 refine ow_gg [(19, _)] (grd1 rfl rfl rfl hgc1) ⟨und1 rfl, trivial⟩ (fun hw4 => g_eq rfl rfl) rfl ?_
 refine ow_g (g_pand rfl rfl hgc1) rfl ?_
 refine ow_g (g_mv rfl) rfl (ow_grp 22 true rfl (fun c2 hgc2 => ?_))
 refine ow_gg [(1, _)] (grd1 rfl rfl rfl hgc2) ⟨und0 rfl, trivial⟩ (fun hw5 => g_mv rfl) rfl ?_
 refine ow_gg [(23, _)] (grd1 rfl rfl rfl hgc2) ⟨und1 rfl, trivial⟩ (fun hw6 => g_ix Try.underlying22 ty5 rfl (by first | assumption | exact Own.rd ‹_› | exact Rd.keep0 ‹_› hB | exact Own.rd (Own.keep0 ‹_› hB)) rfl (by omega)) rfl ?_
 refine ow_gg [(24, _)] (grd1 rfl rfl rfl hgc2) ⟨und1 rfl, trivial⟩ (fun hw7 => g_ldB sc5 rfl (by first | assumption | exact Own.rd ‹_›) (by decide)) rfl ?_
 refine ow_gg [(25, _)] (grd1 rfl rfl rfl hgc2) ⟨und1 rfl, trivial⟩ (fun hw8 => g_eq rfl rfl) rfl ?_
 refine ow_g (g_pand rfl rfl hgc2) rfl ?_
 refine ow_g (g_mv rfl) rfl (ow_grp 28 true rfl (fun c3 hgc3 => ?_))
 refine ow_gg [(2, _)] (grd1 rfl rfl rfl hgc3) ⟨und0 rfl, trivial⟩ (fun hw9 => g_mv rfl) rfl ?_
 refine ow_gg [(29, _)] (grd1 rfl rfl rfl hgc3) ⟨und1 rfl, trivial⟩ (fun hw10 => g_len Try.underlying22 rfl (by first | assumption | exact Own.rd ‹_› | exact Rd.keep0 ‹_› hB | exact Own.rd (Own.keep0 ‹_› hB))) rfl ?_
 refine ow_gg [(30, _)] (grd1 rfl rfl rfl hgc3) ⟨und1 rfl, trivial⟩ (fun hw11 => g_eq rfl rfl) rfl ?_
 refine ow_g (g_pand rfl rfl hgc3) rfl ?_
 refine ow_g (g_mv rfl) rfl (ow_grp 33 true rfl (fun c4 hgc4 => ?_))
 refine ow_gg [(2, _)] (grd1 rfl rfl rfl hgc4) ⟨und0 rfl, trivial⟩ (fun hw12 => g_mv rfl) rfl ?_
 refine ow_gg [(34, _)] (grd1 rfl rfl rfl hgc4) ⟨und1 rfl, trivial⟩ (fun hw13 => g_ix Try.underlying22 ty5 rfl (by first | assumption | exact Own.rd ‹_› | exact Rd.keep0 ‹_› hB | exact Own.rd (Own.keep0 ‹_› hB)) rfl (by omega)) rfl ?_
 refine ow_gg [(35, _)] (grd1 rfl rfl rfl hgc4) ⟨und1 rfl, trivial⟩ (fun hw14 => g_ldB sc5 rfl (by first | assumption | exact Own.rd ‹_›) (by decide)) rfl ?_
 refine ow_gg [(36, _)] (grd1 rfl rfl rfl hgc4) ⟨und1 rfl, trivial⟩ (fun hw15 => g_eq rfl rfl) rfl ?_
 refine ow_g (g_pand rfl rfl hgc4) rfl ?_
 refine ow_g (g_mv rfl) rfl (ow_grp 39 true rfl (fun c5 hgc5 => ?_))
 refine ow_gg [(4, _)] (grd1 rfl rfl rfl hgc5) ⟨und0 rfl, trivial⟩ (fun hw16 => g_mv rfl) rfl ?_
 refine ow_gds [(40, _)] (grd1 rfl rfl rfl hgc5) ⟨und1 rfl, trivial⟩ (fun hw17 => d_call (vs := [_]) rfl (num_any _ _)) rfl ?_
 refine ow_gg [(41, _)] (grd1 rfl rfl rfl hgc5) ⟨und1 rfl, trivial⟩ (fun hw18 => g_eq rfl rfl) rfl ?_
 refine ow_g (g_pand rfl rfl hgc5) rfl ?_
 refine ow_g (g_as rfl) rfl (ow_nil (tw_keep [(0, _)] ⟨rfl, trivial⟩ ?_))
 refine tw_ret1 hfin Try.results13 rfl ?_
 exact ⟨by first | rfl | decide, hB⟩
end Go.Proofs.Ytkngeapegpehpaa.W
namespace Go.Proofs.Ytkngeapegpehpaa.W
open Go Go.Eng Go.Byt Go.Fld Go.Ed
def Rep (X Y Z T : Fp) (a : Pt) : Prop := Z ≠ 0 ∧ X = a.1 * Z ∧ Y = a.2 * Z ∧ T = a.1 * a.2 * Z
theorem rep_of (x y : Fp) : Rep x y 1 (x * y) (x, y) := by
  refine ⟨one_ne, ?_, ?_, ?_⟩ <;> (show _ = _ * (1 : Fp); grind -lia -linarith)
theorem rep_x {a : Pt} {X Y Z T : Fp} (h : Rep X Y Z T a) : X * inv Z = a.1 ∧ Y * inv Z = a.2 := by
  obtain ⟨n, rfl, rfl, rfl⟩ := h
  exact ⟨mul_inv_r n, mul_inv_r n⟩
def RPt (p : Nat → Int) (a : Pt) : Prop := ∃ X Y Z T, Rep X Y Z T a ∧ RN (atN p 0) X ∧ RN (atN p 16) Y ∧ RN (atN p 32) Z ∧ RN (atN p 48) T
theorem rn_congr {f g : Nat → Int} {a : Fp} (h : RN f a) (e : ∀ j, j < 16 → g j = f j) : RN g a := by
  refine ⟨by rw [e 0 (by decide)]; exact h.1, fun i h1 h2 => by rw [e i h2]; exact h.2.1 i h1 h2, ?_⟩
  rw [vN_congr (n := 16) e]; exact h.2.2
def cat4 (f g h k : Nat → Int) : Nat → Int := fun i => bif Nat.blt i 16 then f i else bif Nat.blt i 32 then g (i - 16) else bif Nat.blt i 48 then h (i - 32) else k (i - 48)
theorem blt_T {a b : Nat} (h : a < b) : Nat.blt a b = true := Nat.ble_eq_true_of_le h
theorem blt_F {a b : Nat} (h : b ≤ a) : Nat.blt a b = false := by rw [← Bool.not_eq_true]; unfold Nat.blt; rw [Nat.ble_eq]; omega
theorem cat_rn {f g h k : Nat → Int} {X Y Z T : Fp} (h1 : RN f X) (h2 : RN g Y) (h3 : RN h Z) (h4 : RN k T) : RN (atN (cat4 f g h k) 0) X ∧ RN (atN (cat4 f g h k) 16) Y ∧ RN (atN (cat4 f g h k) 32) Z ∧ RN (atN (cat4 f g h k) 48) T := by
  refine ⟨rn_congr h1 fun j hj => ?_, rn_congr h2 fun j hj => ?_, rn_congr h3 fun j hj => ?_, rn_congr h4 fun j hj => ?_⟩ <;> unfold atN cat4
  · rw [blt_T (by omega), cond_true, Nat.zero_add]
  · rw [blt_F (by omega), blt_T (by omega), cond_false, cond_true, Nat.add_sub_cancel_left]
  · rw [blt_F (by omega), blt_F (by omega), blt_T (by omega), cond_false, cond_false, cond_true, Nat.add_sub_cancel_left]
  · rw [blt_F (by omega), blt_F (by omega), blt_F (by omega), cond_false, cond_false, cond_false, Nat.add_sub_cancel_left]
theorem rpt_mk {f g h k : Nat → Int} {X Y Z T : Fp} {a : Pt} (h1 : RN f X) (h2 : RN g Y) (h3 : RN h Z) (h4 : RN k T) (hr : Rep X Y Z T a) : RPt (cat4 f g h k) a := by
  obtain ⟨c1, c2, c3, c4⟩ := cat_rn h1 h2 h3 h4
  exact ⟨_, _, _, _, hr, c1, c2, c3, c4⟩
theorem ref_d : (0 - fp 121665) * inv (fp 121666) = d := by
  have h : fp 121666 ≠ 0 := by decide +kernel
  have e : d * fp 121666 = 0 - fp 121665 := by decide +kernel
  rw [← e]
  have := mul_inv h
  generalize inv (fp 121666) = i at *
  generalize d = q
  grind -lia -linarith
theorem and127 {x : Int} (h : In x 0 255) : bits .and .u8 x 127 = bits .andNot .u8 x 128 := by
  have key : ∀ n : Fin 256, bits .and .u8 (n.val : Int) 127 = bits .andNot .u8 (n.val : Int) 128 := by decide +kernel
  unfold In at h
  have := key ⟨x.toNat, by omega⟩
  rwa [show ((x.toNat : Nat) : Int) = x by omega] at this
theorem and1_shl {x : Int} (h : In x 0 255) : IntKind.u8.wrap (bits .and .u8 x 1 * 128) = IntKind.u8.wrap (x * 128) := by
  have key : ∀ n : Fin 256, IntKind.u8.wrap (bits .and .u8 (n.val : Int) 1 * 128) = IntKind.u8.wrap ((n.val : Int) * 128) := by decide +kernel
  unfold In at h
  have := key ⟨x.toNat, by omega⟩
  rwa [show ((x.toNat : Nat) : Int) = x by omega] at this
end Go.Proofs.Ytkngeapegpehpaa.W
namespace Go.Proofs.Ytkngeapegpehpaa.W
open Go Go.Eng Go.Byt
set_option linter.unusedVariables false
set_option linter.unusedSimpArgs false
open Go.Fld Go.Ed
set_option maxRecDepth 100000 in
set_option maxHeartbeats 1000000 in
theorem rd_any (w : World) : Rets Try.prog 26 [] w (fun v w' => ∃ r, v = .agg (iv .i64 16 r).toArray ∧ RN r d ∧ Keep [] w w') := by
 have hB : Keep [] w w := Keep.refl _ _
 refine rets_of_tw Try.func26 rfl (by decide) Try.ntmps26 rfl (fun fin _ hfin => ?_)
 refine tw_seq (tw_region (ow_d (d_alloc ty36) rfl ?_))
 rintro _ w1 ⟨b1, rfl, eb1, hb1, k1, z1⟩
 have ge_b1 : w.heap.size ≤ b1 := by have := hB.size; omega
 replace hB := hB.trans k1
 clear eb1 z1
 replace hb1 : Bk w1 b1 36 (iv .i64 16 (fun _ => 0)) := by rw [iv, ivF_rep]; exact hb1
 refine ow_nil (tw_seq (tw_region (ow_d (d_call (vs := [_]) rfl (rsmall_any 0 (by decide) _)) rfl ?_)))
 rintro _ w2 ⟨hh1, rfl, E1, C1, k2⟩
 replace hb1 := hb1.keep0 k2
 replace hB := hB.trans k2
 replace E1 : RN hh1 0 := fp_zero ▸ E1
 refine ow_d (d_call (vs := [_]) rfl (rsmall_any 121665 (by decide) _)) rfl ?_
 rintro _ w3 ⟨hh2, rfl, E2, C2, k3⟩
 replace hb1 := hb1.keep0 k3
 replace hB := hB.trans k3
 refine ow_d (d_call (vs := [_, _]) rfl (rminus_any _ _ _ _ E1 E2 _)) rfl ?_
 rintro _ w4 ⟨hh3, rfl, E3, k4⟩
 replace hb1 := hb1.keep0 k4
 replace hB := hB.trans k4
 refine ow_d (d_call (vs := [_]) rfl (rsmall_any 121666 (by decide) _)) rfl ?_
 rintro _ w5 ⟨hh4, rfl, E4, C3, k5⟩
 replace hb1 := hb1.keep0 k5
 replace hB := hB.trans k5
 refine ow_d (d_call (vs := [_]) rfl (rinverse_any _ _ E4 _)) rfl ?_
 rintro _ w6 ⟨hh5, rfl, E5, k6⟩
 replace hb1 := hb1.keep0 k6
 replace hB := hB.trans k6
 refine ow_d (d_call (vs := [_, _]) rfl (rtimes_any _ _ _ _ E3 E5 _)) rfl ?_
 rintro _ w7 ⟨hh6, rfl, E6, k7⟩
 replace hb1 := hb1.keep0 k7
 replace hB := hB.trans k7
 refine ow_d0 (d_stw (vs := iv .i64 16 hh6) ty36 rfl rfl rfl ivF_one hb1 rfl) ?_
 rintro _ w8 ⟨hb2, k8, z2⟩
 replace hB := hB.new k8 (fun x hx => .inl ((List.mem_singleton.1 hx) ▸ ge_b1))
 clear z2
 refine ow_nil (tw_retc hfin Try.results26 rfl (run_loadAgg ag36 ty36 ‹_› rfl)  ?_)
 exact ⟨hh6, rfl, (by have e := E6; rw [ref_d] at e; exact e), hB⟩
set_option maxRecDepth 100000 in
set_option maxHeartbeats 1000000 in
theorem rof_any (f g : Nat → Int) (x y : Fp) (hf : RN f x) (hg : RN g y) (w : World) : Rets Try.prog 53 [.agg (iv .i64 16 f).toArray, .agg (iv .i64 16 g).toArray] w (fun v w' => ∃ r, v = .agg (iv .i64 64 r).toArray ∧ RPt r (x, y) ∧ Keep [] w w') := by
 have hB : Keep [] w w := Keep.refl _ _
 refine rets_of_tw Try.func53 rfl (by decide) Try.ntmps53 rfl (fun fin _ hfin => ?_)
 refine tw_seq (tw_region (ow_d (d_box (cs := iv .i64 16 f) rfl rfl) rfl ?_))
 rintro _ w1 ⟨b1, rfl, eb1, hb1, k1, z1⟩
 have ge_b1 : w.heap.size ≤ b1 := by have := hB.size; omega
 replace hB := hB.trans k1
 clear eb1 z1
 refine ow_d (d_box (cs := iv .i64 16 g) rfl rfl) rfl ?_
 rintro _ w2 ⟨b2, rfl, eb2, hb2, k2, z2⟩
 have ge_b2 : w.heap.size ≤ b2 := by have := hB.size; omega
 have ne_b1_b2 : b1 ≠ b2 := by have := hb1.lt; omega
 replace hb1 := hb1.keep0 k2
 replace hB := hB.trans k2
 clear eb2 z2
 refine ow_d (d_alloc ty38) rfl ?_
 rintro _ w3 ⟨b3, rfl, eb3, hb3, k3, z3⟩
 have ge_b3 : w.heap.size ≤ b3 := by have := hB.size; omega
 have ne_b1_b3 : b1 ≠ b3 := by have := hb1.lt; omega
 have ne_b2_b3 : b2 ≠ b3 := by have := hb2.lt; omega
 replace hb1 := hb1.keep0 k3
 replace hb2 := hb2.keep0 k3
 replace hB := hB.trans k3
 clear eb3 z3
 replace hb3 : Bk w3 b3 38 (iv .i64 64 (fun _ => 0)) := by rw [iv, ivF_rep]; exact hb3
 refine ow_nil (tw_seq (tw_plan 7 [0, 1, 3, 4, 2, 5, 6] [2, 5] [] mixed [(2, _), (3, _), (4, _)] ⟨rfl, rfl, rfl, trivial⟩ (by decide +kernel) rfl (fun w4 k4 => ?_)))
 replace hb1 := hb1.keep0 k4
 replace hb2 := hb2.keep0 k4
 replace hb3 := hb3.keep0 k4
 replace hB := hB.trans k4
 refine pw_g [(2, _)] rfl rfl ⟨rfl, trivial⟩ rfl (fun W' kk => g_ldab (cs' := iv .i64 16 f) ag36 ty36 rfl (Bk.keep0 hb1 kk) rfl rfl) ?_
 refine pw_g [(3, _)] rfl rfl ⟨rfl, trivial⟩ rfl (fun W' kk => g_ldab (cs' := iv .i64 16 g) ag36 ty36 rfl (Bk.keep0 hb2 kk) rfl rfl) ?_
 refine pw_g [(2, _)] rfl rfl ⟨rfl, trivial⟩ rfl (fun W' kk => g_ldab (cs' := iv .i64 16 f) ag36 ty36 rfl (Bk.keep0 hb1 kk) rfl rfl) ?_
 refine pw_g [(3, _)] rfl rfl ⟨rfl, trivial⟩ rfl (fun W' kk => g_ldab (cs' := iv .i64 16 g) ag36 ty36 rfl (Bk.keep0 hb2 kk) rfl rfl) ?_
 refine pw_d [] rfl rfl trivial rfl (d_call (vs := [_]) rfl (rsmall_any 1 (by decide) _)) ?_
 rintro _ w5 ⟨hh1, rfl, E1, C1, k5⟩
 refine ⟨k5, ?_⟩
 replace hb1 := hb1.keep0 k5
 replace hb2 := hb2.keep0 k5
 replace hb3 := hb3.keep0 k5
 replace hB := hB.trans k5
 replace E1 : RN hh1 1 := fp_one ▸ E1
 refine pw_d [(8, _), (9, _)] rfl rfl ⟨rfl, rfl, trivial⟩ rfl (d_call (vs := [_, _]) rfl (rtimes_any _ _ _ _ hf hg _)) ?_
 rintro _ w6 ⟨hh2, rfl, E2, k6⟩
 refine ⟨k6, ?_⟩
 replace hb1 := hb1.keep0 k6
 replace hb2 := hb2.keep0 k6
 replace hb3 := hb3.keep0 k6
 replace hB := hB.trans k6
 refine pw_g [(5, _), (6, _), (7, _), (10, _)] rfl rfl ⟨rfl, rfl, rfl, rfl, trivial⟩ rfl (fun W' kk => g_bld (idx := [0, 1, 2, 3]) (xs := [.tmp 5, .tmp 6, .tmp 7, .tmp 10]) (vs := [_, _, _, _]) (css := [iv .i64 16 f, iv .i64 16 g, iv .i64 16 hh1, iv .i64 16 hh2]) (out := iv .i64 64 (cat4 f g hh1 hh2)) pl38 ty38 rfl rfl ⟨rfl, rfl, rfl, rfl, trivial⟩ rfl rfl) ?_
 refine pw_nil ?_
 refine ow_d0 (d_stw (vs := iv .i64 64 (cat4 f g hh1 hh2)) ty38 rfl rfl rfl ivF_one hb3 rfl) ?_
 rintro _ w7 ⟨hb4, k7, z4⟩
 replace hb1 := hb1.keep k7 (fun hm => absurd (List.mem_singleton.1 hm) ne_b1_b3)
 replace hb2 := hb2.keep k7 (fun hm => absurd (List.mem_singleton.1 hm) ne_b2_b3)
 replace hB := hB.new k7 (fun x hx => .inl ((List.mem_singleton.1 hx) ▸ ge_b3))
 clear z4
 refine ow_nil (tw_retc hfin Try.results53 rfl (run_loadAgg ag38 ty38 ‹_› rfl)  ?_)
 exact ⟨_, rfl, rpt_mk hf hg E1 E2 (rep_of x y), hB⟩
set_option maxRecDepth 100000 in
set_option maxHeartbeats 1000000 in
theorem rzero_any (w : World) : Rets Try.prog 44 [] w (fun v w' => ∃ r, v = .agg (iv .i64 64 r).toArray ∧ RPt r zero ∧ Keep [] w w') := by
 have hB : Keep [] w w := Keep.refl _ _
 refine rets_of_tw Try.func44 rfl (by decide) Try.ntmps44 rfl (fun fin _ hfin => ?_)
 refine tw_seq (tw_region (ow_d (d_alloc ty38) rfl ?_))
 rintro _ w1 ⟨b1, rfl, eb1, hb1, k1, z1⟩
 have ge_b1 : w.heap.size ≤ b1 := by have := hB.size; omega
 replace hB := hB.trans k1
 clear eb1 z1
 replace hb1 : Bk w1 b1 38 (iv .i64 64 (fun _ => 0)) := by rw [iv, ivF_rep]; exact hb1
 refine ow_nil (tw_seq (tw_region (ow_d (d_call (vs := [_]) rfl (rsmall_any 0 (by decide) _)) rfl ?_)))
 rintro _ w2 ⟨hh1, rfl, E1, C1, k2⟩
 replace hb1 := hb1.keep0 k2
 replace hB := hB.trans k2
 replace E1 : RN hh1 0 := fp_zero ▸ E1
 refine ow_d (d_call (vs := [_]) rfl (rsmall_any 1 (by decide) _)) rfl ?_
 rintro _ w3 ⟨hh2, rfl, E2, C2, k3⟩
 replace hb1 := hb1.keep0 k3
 replace hB := hB.trans k3
 replace E2 : RN hh2 1 := fp_one ▸ E2
 refine ow_d (d_call (vs := [_, _]) rfl (rof_any _ _ _ _ E1 E2 _)) rfl ?_
 rintro _ w4 ⟨hh3, rfl, E3, k4⟩
 replace hb1 := hb1.keep0 k4
 replace hB := hB.trans k4
 refine ow_d0 (d_stw (vs := iv .i64 64 hh3) ty38 rfl rfl rfl ivF_one hb1 rfl) ?_
 rintro _ w5 ⟨hb2, k5, z2⟩
 replace hB := hB.new k5 (fun x hx => .inl ((List.mem_singleton.1 hx) ▸ ge_b1))
 clear z2
 refine ow_nil (tw_retc hfin Try.results44 rfl (run_loadAgg ag38 ty38 ‹_› rfl)  ?_)
 exact ⟨hh3, rfl, E3, hB⟩
end Go.Proofs.Ytkngeapegpehpaa.W
namespace Go.Proofs.Ytkngeapegpehpaa.W
open Go Go.Eng Go.Byt
set_option linter.unusedVariables false
set_option linter.unusedSimpArgs false
open Go.Fld Go.Ed
end Go.Proofs.Ytkngeapegpehpaa.W
namespace Go.Proofs.Ytkngeapegpehpaa.W
open Go Go.Eng Go.Byt
set_option linter.unusedVariables false
set_option linter.unusedSimpArgs false
open Go.Fld Go.Ed
attribute [local irreducible] encB
set_option maxRecDepth 100000 in
set_option maxHeartbeats 1000000 in
theorem rpencode_any (p : Nat → Int) (X1 Y1 Z1 : Fp) (hpX : RN (atN p 0) X1) (hpY : RN (atN p 16) Y1) (hpZ : RN (atN p 32) Z1) (w : World) : Rets Try.prog 17 [.agg (iv .i64 64 p).toArray] w (fun v w' => OwnB w' w.heap.size v (encB (X1 * inv Z1) (Y1 * inv Z1)) ∧ Keep [] w w') := by
 have hB : Keep [] w w := Keep.refl _ _
 refine rets_of_tw Try.func17 rfl (by decide) Try.ntmps17 rfl (fun fin _ hfin => ?_)
 refine tw_seq (tw_region (ow_d (d_box (cs := iv .i64 64 p) rfl rfl) rfl ?_))
 rintro _ w1 ⟨b1, rfl, eb1, hb1, k1, z1⟩
 have ge_b1 : w.heap.size ≤ b1 := by have := hB.size; omega
 replace hB := hB.trans k1
 clear eb1 z1
 refine ow_g (g_as rfl) rfl (ow_nil (tw_seq (tw_region (ow_g (g_faE 32 Try.underlying38 rfl ty36 (by decide) rfl rfl) rfl ?_))))
 refine ow_g (g_ldiv ag36 ty36 rfl hb1 (by first | omega | (unfold In at *; omega))) rfl ?_
 refine ow_d (d_call (vs := [_]) rfl (rinverse_any _ _ hpZ _)) rfl ?_
 rintro _ w2 ⟨hh1, rfl, E1, k2⟩
 replace hb1 := hb1.keep0 k2
 replace hB := hB.trans k2
 refine ow_d (d_alloc ty36) rfl ?_
 rintro _ w3 ⟨b2, rfl, eb2, hb2, k3, z2⟩
 have ge_b2 : w.heap.size ≤ b2 := by have := hB.size; omega
 have ne_b1_b2 : b1 ≠ b2 := by have := hb1.lt; omega
 replace hb1 := hb1.keep0 k3
 replace hB := hB.trans k3
 clear eb2 z2
 replace hb2 : Bk w3 b2 36 (iv .i64 16 (fun _ => 0)) := by rw [iv, ivF_rep]; exact hb2
 refine ow_d0 (d_stw (vs := iv .i64 16 hh1) ty36 rfl rfl rfl ivF_one hb2 rfl) ?_
 rintro _ w4 ⟨hb3, k4, z3⟩
 replace hb1 := hb1.keep k4 (fun hm => absurd (List.mem_singleton.1 hm) ne_b1_b2)
 replace hB := hB.new k4 (fun x hx => .inl ((List.mem_singleton.1 hx) ▸ ge_b2))
 clear z3
 refine ow_nil (tw_seq (tw_region (ow_g (g_faE 0 Try.underlying38 rfl ty36 (by decide) rfl rfl) rfl ?_)))
 refine ow_g (g_ldiv ag36 ty36 rfl hb1 (by first | omega | (unfold In at *; omega))) rfl ?_
 refine ow_g (g_ldab (cs' := iv .i64 16 hh1) ag36 ty36 rfl hb3 rfl rfl) rfl ?_
 refine ow_d (d_call (vs := [_, _]) rfl (rtimes_any _ _ _ _ hpX E1 _)) rfl ?_
 rintro _ w5 ⟨hh2, rfl, E2, k5⟩
 replace hb1 := hb1.keep0 k5
 replace hb3 := hb3.keep0 k5
 replace hB := hB.trans k5
 refine ow_d (d_call (vs := [_]) rfl (rbytes_any _ _ E2 _)) rfl ?_
 rintro v1 w6 ⟨o1, k6⟩
 have gl_o1 := hB.size
 have sb_b1_o1 := fun x hx => (show x ≠ b1 from by have h1 := (o1.blk x hx).1; have h2 := hb1.lt; omega)
 have sb_b2_o1 := fun x hx => (show x ≠ b2 from by have h1 := (o1.blk x hx).1; have h2 := hb3.lt; omega)
 replace hb1 := hb1.keep0 k6
 replace hb3 := hb3.keep0 k6
 replace hB := hB.trans k6
 have u_o1 := o1.blk
 refine ow_g (g_as rfl) rfl (ow_nil (tw_keep [(1, _), (3, _), (4, _)] ⟨rfl, rfl, rfl, trivial⟩ ?_))
 refine tw_seq (tw_region (ow_g (g_faE 16 Try.underlying38 rfl ty36 (by decide) rfl rfl) rfl ?_))
 refine ow_g (g_ldiv ag36 ty36 rfl hb1 (by first | omega | (unfold In at *; omega))) rfl ?_
 refine ow_g (g_ldab (cs' := iv .i64 16 hh1) ag36 ty36 rfl hb3 rfl rfl) rfl ?_
 refine ow_d (d_call (vs := [_, _]) rfl (rtimes_any _ _ _ _ hpY E1 _)) rfl ?_
 rintro _ w7 ⟨hh3, rfl, E3, k7⟩
 replace hb1 := hb1.keep0 k7
 replace hb3 := hb3.keep0 k7
 replace o1 := o1.keep0 k7
 replace hB := hB.trans k7
 refine ow_d (d_call (vs := [_]) rfl (rbytes_any _ _ E3 _)) rfl ?_
 rintro v2 w8 ⟨o2, k8⟩
 have gl_o2 := hB.size
 have sb_b1_o2 := fun x hx => (show x ≠ b1 from by have h1 := (o2.blk x hx).1; have h2 := hb1.lt; omega)
 have sb_b2_o2 := fun x hx => (show x ≠ b2 from by have h1 := (o2.blk x hx).1; have h2 := hb3.lt; omega)
 replace hb1 := hb1.keep0 k8
 replace hb3 := hb3.keep0 k8
 replace o1 := o1.keep0 k8
 replace hB := hB.trans k8
 have u_o2 := o2.blk
 refine ow_g (g_as rfl) rfl (ow_nil (tw_seq (tw_still 10 mixed (by decide +kernel) (fun w9 k9 => ?_))))
 replace o1 := o1.keep0 k9
 replace o2 := o2.keep0 k9
 replace hB := hB.trans k9
 refine sw_g (g_mv rfl) rfl (sw_g (g_mv rfl) rfl (sw_g (g_ix Try.underlying22 ty5 rfl (by first | assumption | exact Own.rd ‹_› | exact Rd.keep0 ‹_› hB | exact Own.rd (Own.keep0 ‹_› hB)) rfl (by rw [fpB_length]; decide)) rfl ?_))
 refine sw_g (g_ldB sc5 rfl (Own.rd o2) (by rw [fpB_length]; decide)) rfl ?_
 refine sw_g (g_mv rfl) rfl (sw_g (g_ix Try.underlying22 ty5 rfl (by first | assumption | exact Own.rd ‹_› | exact Rd.keep0 ‹_› hB | exact Own.rd (Own.keep0 ‹_› hB)) rfl (by rw [fpB_length]; decide)) rfl ?_)
 refine sw_g (g_ldB sc5 rfl (Own.rd o1) (by rw [fpB_length]; decide)) rfl ?_
 refine sw_g (g_and rfl rfl) rfl ?_
 refine sw_g (g_shlc (m := 128) rfl rfl (by decide) (by decide)) rfl ?_
 refine sw_g (g_or rfl rfl) rfl ?_
 refine sw_nil ?_
 refine ow_g (g_ix Try.underlying22 ty5 rfl (by first | assumption | exact Own.rd ‹_› | exact Rd.keep0 ‹_› hB | exact Own.rd (Own.keep0 ‹_› hB)) rfl (by rw [fpB_length]; decide)) rfl ?_
 refine ow_d0 (d_sto (u := .int .u8 _) ty5 rfl rfl rfl o2 (by rw [bv_length, fpB_length]; decide)) ?_
 rintro _ w99 ⟨ow2, k99, z99⟩
 replace hB := hB.new k99 (fun x hx => .inl (Nat.le_trans gl_o2 (o2.blk x hx).1))
 rw [bv_setB (or_in (k := .u8) rfl rfl), and1_shl (gb_range _ _)] at ow2
 refine ow_nil (tw_keep [(5, _)] ⟨rfl, trivial⟩ ?_)
 refine tw_seq (tw_region (ow_g (g_mv rfl) rfl (ow_g (g_as rfl) rfl (ow_nil (tw_ret1 hfin Try.results17 rfl ?_)))))
 exact ⟨(by unfold OwnB encB; rw [List.length_set]; exact ow2.lo gl_o2), hB⟩
theorem rencodeR {p : Nat → Int} {a : Pt} (hp : RPt p a) (w : World) : Rets Try.prog 17 [.agg (iv .i64 64 p).toArray] w (fun v w' => OwnB w' w.heap.size v (encB a.1 a.2) ∧ Keep [] w w') := by
  obtain ⟨X1, Y1, Z1, T1, r1, a1, a2, a3, a4⟩ := hp
  have h := rpencode_any p _ _ _ a1 a2 a3 w
  rw [(rep_x r1).1, (rep_x r1).2] at h
  exact h
end Go.Proofs.Ytkngeapegpehpaa.W
namespace Go.Eng
open Go Go.IntWalk
section
variable {P : Program} {n : Nat}
def tailOk3 (l : List Oper) (p x : Nat) : Bool := Nat.beq l.length (p + 2) && depB l (p + 1) p && depB l (p + 1) x && Nat.blt x p && (List.range p).all fun j => Nat.beq j x || (List.range (p + 1)).any fun m => Nat.blt j m && depB l m j && !Nat.beq m x
theorem tail3_len {l : List Oper} {p x : Nat} (h : tailOk3 l p x = true) : l.length = p + 2 := by
  simp only [tailOk3, Bool.and_eq_true] at h; exact Nat.eq_of_beq_eq_true h.1.1.1.1
theorem tail3_x {l : List Oper} {p x : Nat} (h : tailOk3 l p x = true) : depB l (p + 1) x = true := by
  simp only [tailOk3, Bool.and_eq_true] at h; exact h.1.1.2
theorem tail3_next {l : List Oper} {p x : Nat} (h : tailOk3 l p x = true) : ∀ i, i < l.length → p < i → depB l i (i - 1) = true := by
  intro i hi hp
  have := tail3_len h
  obtain rfl : i = p + 1 := by omega
  simp only [tailOk3, Bool.and_eq_true] at h; exact h.1.1.1.2
theorem tail3_all {l : List Oper} {p x : Nat} {S : Nat → Prop} (h : tailOk3 l p x = true) (hS : ∀ i j, i = p ∨ S i → depB l i j = true → S j) : ∀ j, j < p → j ≠ x → S j := by
  have key : ∀ d j, j < p → j ≠ x → d = p - j → S j := by
    intro d
    induction d using Nat.strongRecOn with
    | ind d ih =>
      intro j hj hx hd
      have h' := h
      simp only [tailOk3, Bool.and_eq_true] at h'
      have h1 := List.all_eq_true.1 h'.2 j (List.mem_range.2 hj)
      simp only [Bool.or_eq_true] at h1
      rcases h1 with h1 | h1
      · exact absurd (Nat.eq_of_beq_eq_true h1) hx
      · obtain ⟨m, hm, h2⟩ := List.any_eq_true.1 h1
        simp only [Bool.and_eq_true, Bool.not_eq_true'] at h2
        have h3 := blt_lt h2.1.1
        have h4 := List.mem_range.1 hm
        have h5 : m ≠ x := fun e => by
          have := h2.2
          rw [e] at this
          have e2 : Nat.beq x x = true := Nat.beq_refl x
          rw [e2] at this; cases this
        refine hS m j ?_ h2.1.2
        rcases Nat.lt_or_ge m p with h6 | h6
        · exact .inr (ih (p - m) (by omega) m h6 h5 rfl)
        · exact .inl (by omega)
  exact fun j hj hx => key _ j hj hx rfl
theorem dep_lt {l : List Oper} (hok : drawOk n l = true) {i j : Nat} (h : depB l i j = true) : j < i := by
  obtain ⟨o, ho, e, he, h3, h4⟩ := dep_edge h
  have hlt : i < l.length := (List.getElem?_eq_some_iff.1 ho).1
  have h1 := List.all_eq_true.1 hok i (List.mem_range.2 hlt)
  simp only [ho, Bool.and_eq_true] at h1
  have h2 := List.all_eq_true.1 h1.1.2 e (Array.mem_toList_iff.2 he)
  rw [h4] at h2
  have := blt_lt (by simpa using h2)
  omega
theorem wpAny_tail3 {l : List Oper} {p0 : Nat} {Q : Exit → Act → World → Prop} (hok : drawOk n l = true) (ht : ∀ i, i < l.length → p0 < i → depB l i (i - 1) = true) : ∀ (d p fuel : Nat) (listed : Array Bool) (a : Act) (w : World), d = l.length - p → p ≤ l.length → p0 ≤ p → d ≤ fuel → listed.size = l.length →
    (∀ i, i < l.length → listed.getD i false = decide (i < p)) → wpList P l.toArray Q (l.drop p) a w → wpAny P .any l.toArray Q fuel listed a w := by
  intro d
  induction d with
  | zero =>
    intro p fuel listed a w hd hp hp0 hf hs hl h
    have hpl : p = l.length := by omega
    subst hpl
    rw [List.drop_length] at h
    have hr : Region.ready .any l.toArray listed = [] := by
      cases hr : Region.ready .any l.toArray listed with
      | nil => rfl
      | cons i r =>
        exfalso
        have hi : i ∈ Region.ready .any l.toArray listed := by rw [hr]; simp
        obtain ⟨h0, o, ho, _⟩ := mem_ready.1 hi
        have hlt : i < l.length := by have := (Array.getElem?_eq_some_iff.1 ho).1; simpa using this
        rw [getD_lists hs hlt true false, hl i hlt] at h0
        simp [hlt] at h0
    cases fuel with
    | zero => exact ⟨hr, h⟩
    | succ f => exact ⟨fun _ => h, fun i hi => by rw [hr] at hi; cases hi⟩
  | succ d ih =>
    intro p fuel listed a w hd hp hp0 hf hs hl h
    have hplt : p < l.length := by omega
    obtain ⟨f, rfl⟩ : ∃ f, fuel = f + 1 := ⟨fuel - 1, by omega⟩
    have hget : l[p]? = some l[p] := List.getElem?_eq_getElem hplt
    have honly : ∀ i, i ∈ Region.ready .any l.toArray listed → i = p := by
      intro i hi
      obtain ⟨h0, o, ho, hedge⟩ := mem_ready.1 hi
      have hlt : i < l.length := by have := (Array.getElem?_eq_some_iff.1 ho).1; simpa using this
      have h1 : ¬ i < p := by
        rw [getD_lists hs hlt true false, hl i hlt] at h0
        simpa using h0
      rcases Nat.lt_or_ge p i with h2 | h2
      · obtain ⟨o', ho', e, he, h3, h4⟩ := dep_edge (ht i hlt (by omega))
        rw [show l[i]? = some o from by simpa using ho] at ho'
        obtain rfl := Option.some.inj ho'
        have := hedge e he h4
        rw [h3, hl (i - 1) (by omega)] at this
        have := of_decide_eq_true this
        omega
      · omega
    have hmem : p ∈ Region.ready .any l.toArray listed := by
      refine mem_ready.2 ⟨by rw [getD_lists hs hplt true false, hl p hplt]; simp, l[p], by simp [hget], fun e he hb => ?_⟩
      have h1 := List.all_eq_true.1 hok p (List.mem_range.2 hplt)
      simp only [hget, Bool.and_eq_true] at h1
      have h2 := List.all_eq_true.1 h1.1.2 e (Array.mem_toList_iff.2 he)
      rw [hb] at h2
      have h3 : e.on < p := blt_lt (by simpa using h2)
      rw [hl e.on (by omega)]; simpa using h3
    refine ⟨fun hr => (by rw [hr] at hmem; cases hmem), fun i hi => ?_⟩
    have := honly i hi
    subst this
    rw [List.drop_eq_getElem_cons hplt] at h
    unfold wpOp
    rw [show l.toArray[i]? = some l[i] from by simp [hget]]
    simp only
    unfold wpList at h
    have hnext : ∀ a' w', wpList P l.toArray Q (l.drop (i + 1)) a' w' → wpAny P .any l.toArray Q f (listed.setIfInBounds i true) a' w' := by
      intro a' w' h'
      refine ih (i + 1) f _ a' w' (by omega) (by omega) (by omega) (by omega) (by simpa using hs) ?_ h'
      intro j hj
      by_cases hij : i = j
      · subst hij
        rw [Array.getD_eq_getD_getElem?]; simp [hs, hj]
      · rw [getD_set_ne false hij, hl j hj]
        by_cases h1 : j < i
        · simp [h1]; omega
        · simp [h1]; omega
    split at h
    · rename_i hw
      rw [if_pos hw]
      exact h.imp (fun h => Oper.wp_mono (fun a' w' h' => hnext a' w' h') h) id
    · rename_i hw
      rw [if_neg hw]
      exact hnext _ _ h
def planOkX (n : Nat) (l : List Oper) (p : Nat) (plan : List Nat) (cb : Nat → Bool) (fl : List Nat) (x : Nat) : Bool :=
  drawOk n l && tailOk3 l p x && plan.all (fun i => Nat.blt i p && (hasDst l i || cb i)) && (List.range p).all (fun i => plan.contains i || fl.contains i) && eager l cb plan && fl.all (fun i => Nat.blt i p && !plan.contains i) && plan.contains x && !cb x
theorem Kn.unput {f : Fr} {a : Act} {d : Nat} {v : Value} (h : Kn n f (a.put (some d) v)) (hn : (f.all fun q => q.1 != d) = true) : Kn n f a := by
  refine ⟨by have := h.size; simpa [Act.put] using this, by have := h.defers; simpa [Act.put] using this, fun t u ht => ?_⟩
  have hne : d ≠ t := by
    intro e
    subst e
    have key : ∀ f : Fr, (f.all fun q => q.1 != d) = true → f.get d = none := by
      intro f
      induction f with
      | nil => intro _; rfl
      | cons q r ih =>
        intro hq
        simp only [List.all_cons, Bool.and_eq_true, bne_iff_ne] at hq
        obtain ⟨q1, q2⟩ := q
        simp only [Fr.get]
        have : Nat.beq q1 d = false := by
          cases hb : Nat.beq q1 d with
          | false => rfl
          | true => exact absurd (Nat.eq_of_beq_eq_true hb) hq.1
        rw [this]; exact ih hq.2
    rw [key f hn] at ht; cases ht
  have := h.get t u ht
  rw [← this]
  simp only [Act.put, Array.getD_eq_getD_getElem?]
  rw [Array.getElem?_setIfInBounds_ne hne]
theorem extract_run {ops : Array Oper} {sx ix dx : Nat} {tyx : TypeId} {posx : String} {aftx : Array Edge} {f1 : Fr} {w : World} {u : Value} {a : Act} (h : PStep P n ops ⟨some dx, .extract (.tmp sx) ix, tyx, posx, aftx, none⟩ f1 w (fun v' w'' => v' = u ∧ w'' = w)) (ha : Kn n f1 a) :
    ∃ v, (∀ w2, (execOp a.eval ⟨some dx, .extract (.tmp sx) ix, tyx, posx, aftx, none⟩).run P w2 = .ok (.value v) w2) ∧ a.put (some dx) v = a.put (some dx) u := by
  obtain ⟨p1, _⟩ := h a ha (fun a' w2 => a' = a.put (some dx) u ∧ w2 = w) (fun _ _ _ => False) (fun v w' ⟨e1, e2⟩ => by subst e1; exact ⟨rfl, e2⟩)
  have p1 := p1 rfl
  unfold Oper.wp at p1
  have e : ∀ w2, (execOp a.eval ⟨some dx, .extract (.tmp sx) ix, tyx, posx, aftx, none⟩).run P w2 = ((Instr.extract (a.eval (.tmp sx)) ix).run P w2).andThen fun v w' => .ok (.value v) w' := by
    intro w2; simp [execOp]
  rw [e w] at p1
  cases hv : a.eval (.tmp sx) with
  | tuple vs =>
    cases hi : vs[ix]? with
    | some v =>
      refine ⟨v, fun w2 => by rw [e w2, hv]; simp [Instr.extract, hi], ?_⟩
      rw [hv] at p1
      simp [Instr.extract, hi, Oper.upon] at p1
      exact p1
    | none => rw [hv] at p1; simp [Instr.extract, hi, Oper.upon, stuck] at p1
  | _ => rw [hv] at p1; simp [Instr.extract, Oper.upon, stuck] at p1
end
section
variable {P : Program} {n : Nat} {fin : Exit → Act → World → Prop} {k : List KI} {f : Fr} {w : World}
def TailX (P : Program) (fin : Exit → Act → World → Prop) (n : Nat) (k : List KI) (l : List Oper) (p dx : Nat) (f : Fr) (w : World) : Prop :=
  ∃ (f13 : Fr) (op : Op) (ty : TypeId) (pos : String) (aft : Array Edge) (R : Value → World → Prop), l[p]? = some ⟨none, op, ty, pos, aft, none⟩ ∧ Fr.sub f13 f ∧ (f13.all fun q => q.1 != dx) = true ∧ Does P n f13 w op ty R ∧ ∀ v w', R v w' → OW P fin n k l.toArray (l.drop (p + 1)) f w'
theorem tailX_wp {l : List Oper} {p dx : Nat} {F : Fr} {a : Act} (hlen : l.length = p + 2) (hF : Kn n F a) (h : TailX P fin n k l p dx F w) : wpList P l.toArray (KQ P fin k) (l.drop p) a w := by
  obtain ⟨f13, op, ty, pos, aft, R, e13, hs13, hno, hdo, hafter⟩ := h
  have hplt : p < l.length := by omega
  have hget : l[p] = ⟨none, op, ty, pos, aft, none⟩ := by
    have := List.getElem?_eq_getElem hplt; rw [e13] at this; exact (Option.some.inj this).symm
  rw [List.drop_eq_getElem_cons hplt, hget]
  unfold wpList
  rw [if_pos (by rfl)]
  exact .inl (hdo a (hF.sub hs13) _ _ _ _ _ _ (fun v w' hv => hafter v w' hv _ hF))
def FinG (P : Program) (n : Nat) (l : List Oper) (p s0 : Nat) (cs : List Nat) (fc : Fr) (G : Fr → World → Prop) : List (Nat × TypeId × List Value) → List Nat → Fr → World → Prop
  | [], _, f, w => G f w
  | q :: r, seen, f, w => ∀ b, s0 ≤ b → b < w.heap.size → Bk w b q.2.1 q.2.2 → (∀ x, x ∈ seen → x ≠ b) → (∀ j, j ∈ cs → hasDst l j = true → ∀ v, fc.get (dstOf l j) = some v → ∀ x, x ∈ cblk v → x ≠ b) →
    FinG P n l p s0 cs fc G r (b :: seen) ((dstOf l q.1, .pointer (some ⟨b, 0, none⟩)) :: f) w
theorem FinG.use {l : List Oper} {p s0 : Nat} {cs : List Nat} {fc : Fr} {G : Fr → World → Prop} {bs : Nat → Nat} : ∀ {fl : List (Nat × TypeId × List Value)} {seen : List Nat} {f : Fr} {w : World}, FinG P n l p s0 cs fc G fl seen f w →
    (∀ q, q ∈ fl → s0 ≤ bs q.1 ∧ bs q.1 < w.heap.size ∧ Bk w (bs q.1) q.2.1 q.2.2 ∧ (∀ j, j ∈ cs → hasDst l j = true → ∀ v, fc.get (dstOf l j) = some v → ∀ x, x ∈ cblk v → x ≠ bs q.1) ∧ (∀ x, x ∈ seen → x ≠ bs q.1)) →
    (fl.map (·.1)).Nodup → (∀ q q', q ∈ fl → q' ∈ fl → q.1 ≠ q'.1 → bs q.1 ≠ bs q'.1) → G (flFr l bs fl f) w
  | [], seen, f, w, h, _, _, _ => h
  | q :: r, seen, f, w, h, hq, hnd, hd => by
    obtain ⟨h1, h2, h3, h4, h5⟩ := hq q (by simp)
    have hnd' := List.nodup_cons.1 hnd
    refine FinG.use (fl := r) (f := (dstOf l q.1, .pointer (some ⟨bs q.1, 0, none⟩)) :: f) (h (bs q.1) h1 h2 h3 h5 h4) (fun q' hq' => ?_) hnd'.2 (fun a b ha hb => hd a b (by simp [ha]) (by simp [hb]))
    obtain ⟨g1, g2, g3, g4, g5⟩ := hq q' (by simp [hq'])
    refine ⟨g1, g2, g3, g4, fun x hx => ?_⟩
    rcases List.mem_cons.1 hx with rfl | hx
    · exact hd q q' (by simp) (by simp [hq']) (fun e => hnd'.1 (List.mem_map.2 ⟨q', hq', e.symm⟩))
    · exact g5 x hx
theorem tw_planX {id : Nat} {l : List Oper} (p : Nat) (plan : List Nat) (cs : List Nat) (T : List Nat) (fl : List (Nat × TypeId × List Value)) {x dx : Nat} {sx ix : Nat} {tyx : TypeId} {posx : String} {aftx : Array Edge} (hx : l[x]? = some ⟨some dx, .extract (.tmp sx) ix, tyx, posx, aftx, none⟩) (hm : P.follows .mixedOrders = true) (f0 : Fr) (hf : Fr.sub f0 f) (hok : planOkX n l p plan (fun i => cs.contains i) (fl.map (·.1)) x = true) (hnd : (fl.map (·.1)).Nodup) (hcs : cs.all (fun i => plan.contains i) = true) (hfl : ∀ q, q ∈ fl → FlOk P l q) (hT : ∀ x, x ∈ T → x < w.heap.size) (hfree0 : freeOk (l.take p) f0 = true)
    (h : ∀ w1, Keep [] w w1 → PA P n l p T w.heap.size (fun i => cs.contains i) (fun f' w' => ∀ w2, Keep [] w' w2 → FinG P n l p w.heap.size cs f' (TailX P fin n k l p dx) fl [] f' w2) plan f0 w1) :
    TW P fin n (.c (.region id l.toArray true) :: k) f w := by
  intro a ha
  simp only [KQ]
  have ha0 := ha.sub hf
  simp only [planOkX, Bool.and_eq_true] at hok
  obtain ⟨⟨⟨⟨⟨⟨⟨hdr, ht⟩, hall⟩, hcov⟩, heag⟩, hfla⟩, hxp⟩, hxc⟩ := hok
  have hxp : x ∈ plan := by simpa using hxp
  have hxc : cs.contains x = false := by simpa using hxc
  have hnx := tail3_next ht
  have hlen := tail3_len ht
  have hfl1 : ∀ q, q ∈ fl → q.1 < p ∧ q.1 ∉ plan := by
    intro q hq
    have := List.all_eq_true.1 hfla q.1 (List.mem_map.2 ⟨q, hq, rfl⟩)
    simp only [Bool.and_eq_true, Bool.not_eq_true'] at this
    exact ⟨blt_lt this.1, by simpa using this.2⟩
  have hcsp : ∀ j, j ∈ cs → j ∈ plan := by
    intro j hj
    have := List.all_eq_true.1 hcs j hj
    simpa using this
  have hpl : p ≤ l.length := by omega
  have hplan : ∀ j, j ∈ plan → j < p ∧ (hasDst l j = true ∨ cs.contains j = true) := by
    intro j hj
    have := List.all_eq_true.1 hall j hj
    simp only [Bool.and_eq_true, Bool.or_eq_true] at this
    exact ⟨blt_lt this.1, this.2⟩
  have hmem : ∀ j, j < p → j ∈ plan ∨ ∃ q, q ∈ fl ∧ q.1 = j := by
    intro j hj
    have := List.all_eq_true.1 hcov j (List.mem_range.2 hj)
    simp only [Bool.or_eq_true, List.contains_iff_mem, List.mem_map] at this
    exact this
  have hgrow : ∀ f' w1 w2, Keep [] w1 w2 → (∀ w3, Keep [] w1 w3 → FinG P n l p w.heap.size cs f' (TailX P fin n k l p dx) fl [] f' w3) → (∀ w3, Keep [] w2 w3 → FinG P n l p w.heap.size cs f' (TailX P fin n k l p dx) fl [] f' w3) := fun f' w1 w2 k1 h w3 k3 => h w3 (k1.trans k3)
  have hfree : ∀ i, i < p → hasDst l i = true → f0.get (dstOf l i) = none := by
    intro i hi hd
    have e1 : dstOf (l.take p) i = dstOf l i := by unfold dstOf; rw [List.getElem?_take, if_pos hi]
    have e2 : hasDst (l.take p) i = hasDst l i := by unfold hasDst; rw [List.getElem?_take, if_pos hi]
    rw [← e1]
    exact get_none_of_free (l := l.take p) (by rw [List.length_take]; omega) (by rw [e2]; exact hd) hfree0
  have hend : ∀ (listed : Array Bool) (a : Act) (w' : World), Kn n f0 a → (∀ i, i < p → listed.getD i false = true) → w.heap.size ≤ w'.heap.size →
      (∃ pre rest vs, ∃ bs : Nat → Nat, plan = pre ++ rest ∧ (∀ c r, rest = c :: r → cs.contains c = true) ∧ PA P n l p T w.heap.size (fun i => cs.contains i) (fun f' w' => ∀ w2, Keep [] w' w2 → FinG P n l p w.heap.size cs f' (TailX P fin n k l p dx) fl [] f' w2) rest (dpF l vs pre.reverse ++ f0) w' ∧
        (∀ i, i ∈ pre → cs.contains i = false → RdOkA P n l T f0 pre vs w' i) ∧ (∀ i, i ∈ pre → cs.contains i = true → listed.getD i false = true) ∧ (∀ i, listed.getD i false = true → (∃ q, q ∈ fl ∧ q.1 = i) ∨ i ∈ pre ∧ (hasDst l i = true → a.tmps.getD (dstOf l i) undef = vs i)) ∧
        (∀ q, q ∈ fl → listed.getD q.1 false = true → a.tmps.getD (dstOf l q.1) undef = .pointer (some ⟨bs q.1, 0, none⟩) ∧ w.heap.size ≤ bs q.1 ∧ bs q.1 < w'.heap.size ∧ Bk w' (bs q.1) q.2.1 q.2.2 ∧ ∀ j, j ∈ pre → cs.contains j = true → ∀ x, x ∈ cblk (vs j) → x ≠ bs q.1) ∧
        (∀ j, j ∈ pre → cs.contains j = true → ∀ x, x ∈ cblk (vs j) → x < w'.heap.size) ∧
        (∀ q q', q ∈ fl → q' ∈ fl → listed.getD q.1 false = true → listed.getD q'.1 false = true → q.1 ≠ q'.1 → bs q.1 ≠ bs q'.1)) →
      ∃ F, Kn n F a ∧ TailX P fin n k l p dx F w' := by
    intro listed a w' hk hlist hsz hst
    obtain ⟨pre, rest, vs, bs, h1, h2, h3, h4, h5, h6, h7, h8, h9⟩ := hst
    have hnf : ∀ c, c ∈ plan → ¬ ∃ q, q ∈ fl ∧ q.1 = c := fun c hc ⟨q, hq, he⟩ => (hfl1 q hq).2 (he ▸ hc)
    have hrest : rest = [] := by
      cases rest with
      | nil => rfl
      | cons c r =>
        exfalso
        have hcp : c ∈ plan := by rw [h1]; simp
        have hc := hplan c hcp
        rcases h6 c (hlist c hc.1) with h | h
        · exact hnf c hcp h
        · exact (eager_split (pre := pre) (h1 ▸ heag)).2 c h.1 (by simp)
    subst hrest
    have hF := h3
    unfold PA at hF
    have hpre : ∀ j, j ∈ pre → j ∈ plan := fun j hj => by rw [h1]; simp [hj]
    have hkF : Kn n (dpF l vs pre.reverse ++ f0) a := Kn.app (by
      intro q hq
      obtain ⟨j, hj, hjd, rfl⟩ := mem_dpF hq
      have hj' : j ∈ pre := by simpa using hj
      rcases h6 j (hlist j (hplan j (hpre j hj')).1) with h | h
      · exact absurd h (hnf j (hpre j hj'))
      · exact h.2 hjd) hk
    refine ⟨_, kn_flFr (bs := bs) (fl := fl) hkF (fun q hq => (h7 q hq (hlist _ (hfl1 q hq).1)).1), FinG.use (bs := bs) (hF w' (Keep.refl _ _)) (fun q hq => ?_) hnd (fun q q' hq hq' hne => h9 q q' hq hq' (hlist _ (hfl1 q hq).1) (hlist _ (hfl1 q' hq').1) hne)⟩
    obtain ⟨_, g2, g3, g4, g5⟩ := h7 q hq (hlist _ (hfl1 q hq).1)
    refine ⟨g2, g3, g4, fun j hj hjd v hv x hx => ?_, fun x hx => by cases hx⟩
    have hjp := hcsp j hj
    rcases get_dpF hv with ⟨j', hj', e0, e1, e2⟩ | e1
    · have hj2 : j' ∈ pre := by simpa using hj'
      have : j' = j := draw_distinct hdr (Nat.lt_of_lt_of_le (hplan j' (hpre j' hj2)).1 hpl) (Nat.lt_of_lt_of_le (hplan j hjp).1 hpl) e0 hjd e1
      subst this; subst e2
      exact g5 j' hj2 (by simpa using hj) x hx
    · rw [hfree j (hplan j hjp).1 hjd] at e1; cases e1
  have hgo : ∀ (a : Act) (w' : World), (∃ F, Kn n F a ∧ TailX P fin n k l p dx F w') → wpList P l.toArray (KQ P fin k) (l.drop p) a w' := by
    rintro a w' ⟨F, hF, hG⟩
    exact tailX_wp hlen hF hG
  refine wp_region_any hm ?_
  have key : ∀ (fuel : Nat) (listed : Array Bool) (a : Act) (w' : World), listed.size = l.length → left l.length listed ≤ fuel → Kn n f0 a → (∀ i, p ≤ i → i < l.length → listed.getD i false = false) → (∀ i, listed.getD i false = true → i < p) →
      (∀ i j, listed.getD i false = true → depB l i j = true → listed.getD j false = true) → w.heap.size ≤ w'.heap.size →
      (∃ pre rest vs, ∃ bs : Nat → Nat, plan = pre ++ rest ∧ (∀ c r, rest = c :: r → cs.contains c = true) ∧ PA P n l p T w.heap.size (fun i => cs.contains i) (fun f' w' => ∀ w2, Keep [] w' w2 → FinG P n l p w.heap.size cs f' (TailX P fin n k l p dx) fl [] f' w2) rest (dpF l vs pre.reverse ++ f0) w' ∧
        (∀ i, i ∈ pre → cs.contains i = false → RdOkA P n l T f0 pre vs w' i) ∧ (∀ i, i ∈ pre → cs.contains i = true → listed.getD i false = true) ∧ (∀ i, listed.getD i false = true → (∃ q, q ∈ fl ∧ q.1 = i) ∨ i ∈ pre ∧ (hasDst l i = true → a.tmps.getD (dstOf l i) undef = vs i)) ∧
        (∀ q, q ∈ fl → listed.getD q.1 false = true → a.tmps.getD (dstOf l q.1) undef = .pointer (some ⟨bs q.1, 0, none⟩) ∧ w.heap.size ≤ bs q.1 ∧ bs q.1 < w'.heap.size ∧ Bk w' (bs q.1) q.2.1 q.2.2 ∧ ∀ j, j ∈ pre → cs.contains j = true → ∀ x, x ∈ cblk (vs j) → x ≠ bs q.1) ∧
        (∀ j, j ∈ pre → cs.contains j = true → ∀ x, x ∈ cblk (vs j) → x < w'.heap.size) ∧
        (∀ q q', q ∈ fl → q' ∈ fl → listed.getD q.1 false = true → listed.getD q'.1 false = true → q.1 ≠ q'.1 → bs q.1 ≠ bs q'.1)) →
      wpAny P .any l.toArray (KQ P fin k) fuel listed a w' := by
    intro fuel
    induction fuel with
    | zero =>
      intro listed a w' hs hle hk hun hlp hcl hsz hst
      have hlist : ∀ i, i < l.length → listed.getD i false = true := by
        intro i hi
        cases hc : listed.getD i false with
        | true => rfl
        | false =>
          exfalso
          have := left_set hi hs (by rw [getD_lists hs hi true false]; exact hc)
          omega
      have hpe : p = l.length := by
        rcases Nat.lt_or_ge p l.length with h1 | h1
        · have := hun p (Nat.le_refl _) h1; rw [hlist p h1] at this; cases this
        · omega
      refine wpAny_tail3 hdr hnx 0 p 0 listed a w' (by omega) hpl (Nat.le_refl _) (Nat.le_refl _) hs (fun i hi => by rw [hlist i hi]; simp; omega) ?_
      exact hgo _ _ (hend listed a w' hk (fun i hi => hlist i (by omega)) hsz hst)
    | succ fuel ih =>
      intro listed a w' hs hle hk hun hlp hcl hsz hst
      by_cases hfull : ∀ i, i < p → listed.getD i false = true
      · refine wpAny_tail3 hdr hnx (l.length - p) p (fuel + 1) listed a w' rfl hpl (Nat.le_refl _) ?_ hs (fun i hi => ?_) (hgo _ _ (hend listed a w' hk hfull hsz hst))
        · refine Nat.le_trans ?_ hle
          unfold left
          have e1 : l.length - p = ((List.range' p (l.length - p)).countP fun i => !listed.getD i true) := by
            rw [List.countP_eq_length.2 (fun i hi => ?_)]
            · simp
            · rw [List.mem_range'_1] at hi
              rw [getD_lists hs (by omega) true false, hun i (by omega) (by omega)]; rfl
          rw [e1]
          have e2 : List.range l.length = List.range p ++ List.range' p (l.length - p) := by
            have e3 := List.range'_append_1 (s := 0) (m := p) (n := l.length - p)
            rw [Nat.zero_add] at e3
            rw [List.range_eq_range', List.range_eq_range', e3]; congr 1; omega
          rw [e2, List.countP_append]; omega
        · by_cases hip : i < p
          · rw [hfull i hip]; simp [hip]
          · rw [hun i (by omega) hi]; simp [hip]
      · obtain ⟨pre, rest, vs, bs, h1, h2, h3, h4, h5, h6, h7, h8, h9⟩ := hst
        have hnf : ∀ c, c ∈ plan → ¬ ∃ q, q ∈ fl ∧ q.1 = c := fun c hc ⟨q, hq, he⟩ => (hfl1 q hq).2 (he ▸ hc)
        obtain ⟨q, hq⟩ := Classical.not_forall.1 hfull
        obtain ⟨hq1, hq2⟩ := Classical.not_imp.1 hq
        have hq2 : listed.getD q false = false := eq_false_of_ne_true hq2
        refine ⟨fun hr => (by
          have := all_listed hdr rfl hs hr q (by omega)
          rw [hq2] at this; cases this), fun i hi => ?_⟩
        obtain ⟨h0, o, ho, hedge⟩ := mem_ready.1 hi
        have ho' : l[i]? = some o := by simpa using ho
        have hlt : i < l.length := (List.getElem?_eq_some_iff.1 ho').1
        have hdepl : ∀ j, depB l i j = true → listed.getD j false = true := by
          intro j hj
          simp only [depB, ho'] at hj
          obtain ⟨e, he, h7⟩ := List.any_eq_true.1 hj
          simp only [Bool.and_eq_true, beq_iff_eq] at h7
          have := hedge e (Array.mem_toList_iff.1 he) h7.2
          rwa [h7.1] at this
        rcases Nat.lt_or_ge i p with hip | hip
        rotate_left
        · have hpi : i = p := by
            rcases Nat.lt_or_ge p i with h8 | h8
            · have := hdepl _ (hnx i hlt h8)
              rw [hun (i - 1) (by omega) (by omega)] at this; cases this
            · omega
          subst hpi
          have hallx : ∀ j, j < i → j ≠ x → listed.getD j false = true := tail3_all (S := fun j => listed.getD j false = true) ht (fun m j hm hd => hm.elim (fun e => hdepl j (e ▸ hd)) (fun hl => hcl m j hl hd))
          have hxi : x < i := (hplan x hxp).1
          have hxl : listed.getD x false = false := by
            cases hc : listed.getD x false with
            | false => rfl
            | true => exact absurd (fun j hj => if e : j = x then e ▸ hc else hallx j hj e) hfull
          have hpre : ∀ j, j ∈ pre → j ∈ plan := fun j hj => by rw [h1]; simp [hj]
          have hrest : rest = [] := by
            cases rest with
            | nil => rfl
            | cons c r =>
              exfalso
              have hcp : c ∈ plan := by rw [h1]; simp
              have hcc := h2 c r rfl
              rcases h6 c (hallx c (hplan c hcp).1 (fun e => by rw [e, hxc] at hcc; cases hcc)) with h | h
              · exact hnf c hcp h
              · exact (eager_split (pre := pre) (h1 ▸ heag)).2 c h.1 (by simp)
          subst hrest
          have hxpre : x ∈ pre := by rw [h1] at hxp; simpa using hxp
          obtain ⟨o2, f1, g1, g2, g3⟩ := h4 x hxpre hxc
          rw [hx] at g1
          simp only [Option.some.injEq] at g1
          subst g1
          have hxdep : ∀ j, depB l x j = true → listed.getD j false = true := by
            intro j hj
            have := dep_lt hdr hj
            exact hallx j (by omega) (by omega)
          have hkx : Kn n f1 a := kn_lkA hk g2 (fun j hj hjp hjd => (h6 j (hxdep j hj)).elim (fun h => absurd h (hnf j (hpre j hjp))) (fun h => h.2 hjd))
          obtain ⟨vx, hrunx, hputx⟩ := extract_run (g3 w' (Keep.refl _ _)) hkx
          have hxd : hasDst l x = true := by unfold hasDst; rw [hx]; rfl
          have hdxd : dstOf l x = dx := by unfold dstOf; rw [hx]; rfl
          have hdn : dx < n := by
            have h8 := List.all_eq_true.1 hdr x (List.mem_range.2 (by omega))
            simp only [hx, Bool.and_eq_true] at h8
            rw [hdxd] at h8
            exact blt_lt h8.1.1
          have hxfl : ∀ q, q ∈ fl → x ≠ q.1 := fun q hq e => hnf x hxp ⟨q, hq, e.symm⟩
          have hputo : ∀ j, j < i → hasDst l j = true → x ≠ j → (a.put (some dx) (vs x)).tmps.getD (dstOf l j) undef = a.tmps.getD (dstOf l j) undef := by
            intro j hj hdj hij
            have hne : dx ≠ dstOf l j := fun e => hij (draw_distinct hdr (by omega) (by omega) hxd hdj (by rw [hdxd, e]))
            simp only [Act.put, Array.getD_eq_getD_getElem?]; rw [Array.getElem?_setIfInBounds_ne hne]
          have hfd : ∀ q, q ∈ fl → hasDst l q.1 = true := by
            intro q hq
            obtain ⟨d, ty, pos, aft, s, by_, hg, _⟩ := hfl q hq
            unfold hasDst; rw [hg]; rfl
          obtain ⟨F, hF, hG⟩ := hend (listed.setIfInBounds x true) (a.put (some dx) (vs x)) w' (hk.putOther (by rw [← hdxd]; exact hfree x hxi hxd) _)
            (fun j hj => by
              by_cases e : x = j
              · subst e; rw [Array.getD_eq_getD_getElem?]; simp [hs, (show x < l.length by omega)]
              · rw [getD_set_ne false e]; exact hallx j hj (Ne.symm e)) hsz
            ⟨pre, [], vs, bs, h1, (fun c r h => by cases h), h3, h4, fun j hj hc => by
                by_cases e : x = j
                · subst e; rw [hxc] at hc; cases hc
                · rw [getD_set_ne false e]; exact h5 j hj hc,
              fun j hj => by
                by_cases e : x = j
                · subst e
                  refine .inr ⟨hxpre, fun _ => ?_⟩
                  rw [hdxd]; simp [Act.put, Array.getD_eq_getD_getElem?, hk.size, hdn]
                · rw [getD_set_ne false e] at hj
                  rcases h6 j hj with h | ⟨m1, m2⟩
                  · exact .inl h
                  · exact .inr ⟨m1, fun hjd => by rw [hputo j (hplan j (hpre j m1)).1 hjd e]; exact m2 hjd⟩,
              fun q hq hlq => by
                rw [getD_set_ne false (hxfl q hq)] at hlq
                obtain ⟨m1, m2⟩ := h7 q hq hlq
                exact ⟨by rw [hputo q.1 (hfl1 q hq).1 (hfd q hq) (hxfl q hq)]; exact m1, m2⟩, h8,
              fun q q' hq hq' hl1 hl2 => by
                rw [getD_set_ne false (hxfl q hq)] at hl1
                rw [getD_set_ne false (hxfl q' hq')] at hl2
                exact h9 q q' hq hq' hl1 hl2⟩
          obtain ⟨f13, op, ty, pos, aft, R, e13, hs13, hno, hdo, hafter⟩ := hG
          rw [e13] at ho'
          simp only [Option.some.injEq] at ho'
          subst ho'
          have hk13 : Kn n f13 a := (hF.sub hs13).unput hno
          have hlq := left_set hlt hs h0
          unfold wpOp
          rw [ho]
          simp only
          rw [if_pos (by rfl)]
          refine .inl (hdo a hk13 _ _ _ _ _ _ (fun v w3 hv => ?_))
          have hs2 : (listed.setIfInBounds i true).size = l.length := by simpa using hs
          have hx2 : (listed.setIfInBounds i true).getD x false = false := by rw [getD_set_ne false (by omega)]; exact hxl
          have hlx := left_set (i := x) (by omega) hs2 (by rw [getD_lists hs2 (by omega) true false]; exact hx2)
          have hsx : ((listed.setIfInBounds i true).setIfInBounds x true).size = l.length := by simpa using hs
          have hend2 : ∀ j, j < l.length → ((listed.setIfInBounds i true).setIfInBounds x true).getD j false = decide (j < i + 1) := by
            intro j hj
            by_cases e1 : x = j
            · subst e1; rw [Array.getD_eq_getD_getElem?]; simp [hs, hj]; omega
            · rw [getD_set_ne false e1]
              by_cases e2 : i = j
              · subst e2; rw [Array.getD_eq_getD_getElem?]; simp [hs, hj]
              · rw [getD_set_ne false e2]
                by_cases e3 : j < i
                · rw [hallx j e3 (Ne.symm e1)]; simp; omega
                · rw [hun j (by omega) hj]; simp; omega
          have hl1 : 1 ≤ left l.length ((listed.setIfInBounds i true).setIfInBounds x true) := by
            have := left_set (m := l.length) (i := i + 1) (by omega) hsx (by rw [getD_lists hsx (by omega) true false, hend2 (i + 1) (by omega)]; simp)
            omega
          obtain ⟨f, rfl⟩ : ∃ f, fuel = f + 1 := ⟨fuel - 1, by omega⟩
          refine ⟨fun hr => (by
            have := all_listed hdr rfl hs2 hr x (by omega)
            rw [hx2] at this; cases this), fun i2 hi2 => ?_⟩
          obtain ⟨h02, o2, ho2, hedge2⟩ := mem_ready.1 hi2
          have ho2' : l[i2]? = some o2 := by simpa using ho2
          have hlt2 : i2 < l.length := (List.getElem?_eq_some_iff.1 ho2').1
          have hi2x : i2 = x := by
            rw [getD_lists hs2 hlt2 true false] at h02
            by_cases e2 : i = i2
            · subst e2; rw [Array.getD_eq_getD_getElem?] at h02; simp [hs, hlt2] at h02
            · rw [getD_set_ne false e2] at h02
              rcases Nat.lt_or_ge i2 i with h9 | h9
              · by_cases e3 : i2 = x
                · exact e3
                · rw [hallx i2 h9 e3] at h02; cases h02
              · exfalso
                have hd := tail3_x ht
                rw [show i + 1 = i2 by omega] at hd
                obtain ⟨o', ho', e, he, h3', h4'⟩ := dep_edge hd
                rw [ho2'] at ho'
                obtain rfl := Option.some.inj ho'
                have := hedge2 e he h4'
                rw [h3', hx2] at this; cases this
          subst hi2x
          rw [hx] at ho2'
          simp only [Option.some.injEq] at ho2'
          subst ho2'
          unfold wpOp
          rw [ho2]
          simp only
          rw [if_pos (by rfl)]
          left
          show Oper.wp P _ a w3 _ _
          unfold Oper.wp
          rw [hrunx w3, Oper.upon_value]
          show wpAny P .any l.toArray (KQ P fin k) f _ (a.put (some dx) vx) w3
          rw [hputx]
          exact wpAny_tail3 hdr (p0 := i) hnx (l.length - (i + 1)) (i + 1) f _ _ _ rfl (by omega) (by omega) (by omega) hsx hend2 (hafter v w3 hv _ hF)
        have hil : listed.getD i false = false := by rw [getD_lists hs hlt false true]; exact h0
        have hidn : ∀ d, o.dst = some d → hasDst l i = true ∧ dstOf l i = d ∧ d < n := by
          intro d hd
          have hdd : dstOf l i = d := by simp [dstOf, ho', hd]
          refine ⟨by simp [hasDst, ho', hd], hdd, ?_⟩
          have h8 := List.all_eq_true.1 hdr i (List.mem_range.2 hlt)
          simp only [ho', Bool.and_eq_true] at h8
          rw [hdd] at h8
          exact blt_lt h8.1.1
        have hids : hasDst l i = true → ∃ d, o.dst = some d := by
          intro hid
          unfold hasDst at hid; rw [ho'] at hid
          cases hd : o.dst with
          | none => rw [Option.bind_some, hd] at hid; cases hid
          | some d => exact ⟨d, rfl⟩
        have hleft := left_set hlt hs h0
        have hun' : ∀ j, p ≤ j → j < l.length → (listed.setIfInBounds i true).getD j false = false := fun j h1 h2 => by rw [getD_set_ne false (by omega)]; exact hun j h1 h2
        have hlp' : ∀ j, (listed.setIfInBounds i true).getD j false = true → j < p := by
          intro j hj
          by_cases hij : i = j
          · subst hij; exact hip
          · rw [getD_set_ne false hij] at hj; exact hlp j hj
        have hcl' : ∀ m j, (listed.setIfInBounds i true).getD m false = true → depB l m j = true → (listed.setIfInBounds i true).getD j false = true := by
          intro m j hm hd
          have hj : listed.getD j false = true := by
            by_cases him : i = m
            · exact hdepl j (him ▸ hd)
            · rw [getD_set_ne false him] at hm; exact hcl m j hm hd
          by_cases hij : i = j
          · subst hij; rw [hil] at hj; cases hj
          · rw [getD_set_ne false hij]; exact hj
        have hput : ∀ v, hasDst l i = true → (a.put o.dst v).tmps.getD (dstOf l i) undef = v := by
          intro v hid
          obtain ⟨d, hod⟩ := hids hid
          obtain ⟨_, hdd, hdn⟩ := hidn d hod
          rw [hdd, hod]; simp [Act.put, Array.getD_eq_getD_getElem?, hk.size, hdn]
        have hputo : ∀ v j, j < p → hasDst l j = true → i ≠ j → (a.put o.dst v).tmps.getD (dstOf l j) undef = a.tmps.getD (dstOf l j) undef := by
          intro v j hj hdj hij
          cases hod : o.dst with
          | none => rfl
          | some d =>
            obtain ⟨hid, hdd, hdn⟩ := hidn d hod
            have hne : d ≠ dstOf l j := fun e => hij (draw_distinct hdr hlt (by omega) hid hdj (by rw [hdd, e]))
            simp only [Act.put, Array.getD_eq_getD_getElem?]; rw [Array.getElem?_setIfInBounds_ne hne]
        have hkput : ∀ v, Kn n f0 (a.put o.dst v) := by
          intro v
          cases hod : o.dst with
          | none => exact hk
          | some d =>
            obtain ⟨hid, hdd, hdn⟩ := hidn d hod
            exact hk.putOther (by rw [← hdd]; exact hfree i hip hid) v
        have hpre : ∀ j, j ∈ pre → j ∈ plan := fun j hj => by rw [h1]; simp [hj]
        have hpredep : ∀ j, depB l i j = true → j ∈ pre → hasDst l j = true → a.tmps.getD (dstOf l j) undef = vs j := fun j hj hjp hjd => (h6 j (hdepl j hj)).elim (fun h => absurd h (hnf j (hpre j hjp))) (fun h => h.2 hjd)
        have hfd : ∀ q, q ∈ fl → hasDst l q.1 = true := by
          intro q hq
          obtain ⟨d, ty, pos, aft, s, by_, hg, _⟩ := hfl q hq
          unfold hasDst; rw [hg]; rfl
        have step : ∀ f1, Kn n f1 a → ∀ R : Value → World → Prop, PStep P n l.toArray o f1 w' R → (∀ v w2, R v w2 → wpAny P .any l.toArray (KQ P fin k) fuel (listed.setIfInBounds i true) (a.put o.dst v) w2) → wpOp P l.toArray (KQ P fin k) i (wpAny P .any l.toArray (KQ P fin k) fuel (listed.setIfInBounds i true)) a w' := by
          intro f1 hkf R hp hn
          obtain ⟨p1, p2⟩ := hp a hkf (wpAny P .any l.toArray (KQ P fin k) fuel (listed.setIfInBounds i true)) (KQ P fin k) hn
          unfold wpOp
          rw [ho]
          simp only
          by_cases hw : Region.wanted o (yielded l.toArray a.tmps) = true
          · rw [if_pos hw]; exact .inl (p1 hw)
          · rw [if_neg hw]; exact p2 (eq_false_of_ne_true hw)
        rcases hmem i hip with hpl1 | ⟨q, hqf, hqi⟩
        · have hpm := hpl1
          rw [h1] at hpm
          have hifl : ∀ q, q ∈ fl → i ≠ q.1 := fun q hq e => hnf i hpl1 ⟨q, hq, e.symm⟩
          rcases List.mem_append.1 hpm with hpre1 | hrs
          · have hcb : cs.contains i = false := by
              cases hc : cs.contains i with
              | false => rfl
              | true => have := h5 i hpre1 hc; rw [hil] at this; cases this
            obtain ⟨o2, f1, g1, g2, g3⟩ := h4 i hpre1 hcb
            rw [ho'] at g1
            simp only [Option.some.injEq] at g1
            subst g1
            refine step f1 (kn_lkA hk g2 hpredep) _ (g3 w' (Keep.refl _ _)) ?_
            rintro v w2 ⟨rfl, rfl⟩
            refine ih _ _ _ (by simpa using hs) (by omega) (hkput _) hun' hlp' hcl' hsz ⟨pre, rest, vs, bs, h1, h2, h3, h4, fun j hj hc => ?_, fun j hj => ?_, fun q hq hlq => ?_, h8, fun q q' hq hq' hl1 hl2 => ?_⟩
            · by_cases hij : i = j
              · subst hij; rw [hcb] at hc; cases hc
              · rw [getD_set_ne false hij]; exact h5 j hj hc
            · by_cases hij : i = j
              · subst hij; exact .inr ⟨hpre1, hput _⟩
              · rw [getD_set_ne false hij] at hj
                rcases h6 j hj with h | ⟨m1, m2⟩
                · exact .inl h
                · have hpj := hplan j (hpre j m1)
                  exact .inr ⟨m1, fun hjd => by rw [hputo _ j hpj.1 hjd hij]; exact m2 hjd⟩
            · rw [getD_set_ne false (hifl q hq)] at hlq
              obtain ⟨m1, m2⟩ := h7 q hq hlq
              exact ⟨by rw [hputo _ q.1 (hfl1 q hq).1 (hfd q hq) (hifl q hq)]; exact m1, m2⟩
            · rw [getD_set_ne false (hifl q hq)] at hl1
              rw [getD_set_ne false (hifl q' hq')] at hl2
              exact h9 q q' hq hq' hl1 hl2
          · cases rest with
            | nil => cases hrs
            | cons c r =>
              have hcc := h2 c r rfl
              rw [h1] at heag
              obtain ⟨he1, he2⟩ := eager_split heag
              rcases List.mem_cons.1 hrs with hic | hir
              · subst hic
                have h30 := h3
                unfold PA at h30
                obtain ⟨o2, f1, g1, g2, g3, g4⟩ := h30
                rw [ho'] at g1
                simp only [Option.some.injEq] at g1
                subst g1
                rcases g4 with ⟨_, g4⟩ | ⟨g4, _⟩
                · have hlk := lkA_of (f0 := f0) hdr hpl (fun j hj => (hplan j (hpre j hj)).1) g2 g3
                  refine step f1 (kn_lkA hk hlk hpredep) _ (g4 w' (Keep.refl _ _)) ?_
                  rintro v w2 ⟨hkw, hcv, hpw⟩
                  have hni : i ∉ pre := fun hm => he2 i hm (by simp)
                  have hnr : i ∉ pre.reverse := by simpa using hni
                  have hmm : ∀ j, j ∈ pre → j ∈ pre ++ [i] ∧ setV vs i v j = vs j := fun j hj => ⟨by simp [hj], setV_other vs v (fun e => hni (e ▸ hj))⟩
                  obtain ⟨pre', rest', vs', k1, k2, k3, k4, k5, k6⟩ := absorbA (f0 := f0) (T := T) (s0 := w.heap.size) (cb := fun i => cs.contains i) hdr hpl r (pre ++ [i]) (setV vs i v) w2 (by rw [List.append_assoc, List.singleton_append]; exact heag) (by rw [List.append_assoc, List.singleton_append, ← h1]; exact hplan)
                    (by rw [List.reverse_append, List.reverse_singleton, List.singleton_append, dpF_cons, setV_same, dpF_setV hnr]; exact hpw)
                    (fun j hj hcj => by
                      rcases List.mem_append.1 hj with h | h
                      · exact (h4 j h hcj).mono h hmm hkw
                      · rw [List.mem_singleton] at h
                        subst h; rw [hcc] at hcj; cases hcj)
                  have hsame : ∀ j, j ∈ pre → j ∈ pre' ∧ vs' j = vs j := fun j hj => ⟨(k2 j (hmm j hj).1).1, ((k2 j (hmm j hj).1).2).trans (hmm j hj).2⟩
                  have hci := k2 i (by simp)
                  rw [setV_same] at hci
                  have hcall : ∀ j, j ∈ pre' → cs.contains j = true → j ∈ pre ∧ vs' j = vs j ∨ j = i := by
                    intro j hj hc
                    rcases k3 j hj with h | h
                    · rcases List.mem_append.1 h with h | h
                      · exact .inl ⟨h, (hsame j h).2⟩
                      · rw [List.mem_singleton] at h; exact .inr h
                    · rw [hc] at h; cases h
                  refine ih _ _ _ (by simpa using hs) (by omega) (hkput _) hun' hlp' hcl' (Nat.le_trans hsz hkw.size) ⟨pre', rest', vs', bs, by rw [← k1, h1]; simp, k4, k5, k6, fun j hj hc => ?_, fun j hj => ?_, fun q hq hlq => ?_, fun j hj hc x hx => ?_, fun q q' hq hq' hl1 hl2 => ?_⟩
                  · by_cases hij : i = j
                    · subst hij
                      rw [Array.getD_eq_getD_getElem?]; simp [hs, hlt]
                    · rw [getD_set_ne false hij]
                      rcases hcall j hj hc with h | h
                      · exact h5 j h.1 hc
                      · exact absurd h.symm hij
                  · by_cases hij : i = j
                    · subst hij; exact .inr ⟨hci.1, fun hid => by rw [hput _ hid, hci.2]⟩
                    · rw [getD_set_ne false hij] at hj
                      rcases h6 j hj with h | ⟨m1, m2⟩
                      · exact .inl h
                      · have hpj := hplan j (hpre j m1)
                        exact .inr ⟨(hsame j m1).1, fun hjd => by rw [hputo _ j hpj.1 hjd hij, (hsame j m1).2]; exact m2 hjd⟩
                  · rw [getD_set_ne false (hifl q hq)] at hlq
                    obtain ⟨m1, m2, m3, m4, m5⟩ := h7 q hq hlq
                    refine ⟨by rw [hputo _ q.1 (hfl1 q hq).1 (hfd q hq) (hifl q hq)]; exact m1, m2, Nat.lt_of_lt_of_le m3 hkw.size, m4.keep hkw (fun hm => by have := hT _ hm; omega), fun j hj hc x hx => ?_⟩
                    rcases hcall j hj hc with ⟨h, e⟩ | h
                    · rw [e] at hx; exact m5 j h hc x hx
                    · subst h
                      rw [hci.2] at hx
                      have := (hcv x hx).1
                      intro e; omega
                  · rcases hcall j hj hc with ⟨h, e⟩ | h
                    · rw [e] at hx; exact Nat.lt_of_lt_of_le (h8 j h hc x hx) hkw.size
                    · subst h
                      rw [hci.2] at hx
                      exact (hcv x hx).2
                  · rw [getD_set_ne false (hifl q hq)] at hl1
                    rw [getD_set_ne false (hifl q' hq')] at hl2
                    exact h9 q q' hq hq' hl1 hl2
                · rw [hcc] at g4; cases g4
              · exfalso
                simp only [eager, Bool.and_eq_true] at he1
                have h7 := he1.1.2
                rw [hcc, Bool.not_true, Bool.false_or] at h7
                have h8 := List.all_eq_true.1 h7 i hir
                obtain ⟨j, hj, hdj⟩ := List.any_eq_true.1 h8
                have hjp : j ∈ plan := by rw [h1]; exact List.mem_append_right _ hj
                rcases h6 j (hdepl j hdj) with h | h
                · exact hnf j hjp h
                · exact he2 j h.1 hj
        · subst hqi
          obtain ⟨d', ty, pos, aft, s, by_, hg, hTy⟩ := hfl q hqf
          rw [hg] at ho'
          simp only [Option.some.injEq] at ho'
          have hnp : q.1 ∉ pre := fun hm => (hfl1 q hqf).2 (hpre _ hm)
          refine step [] ⟨hk.size, hk.defers, fun t v h => by cases h⟩ (fun v' w2 => ∃ b, v' = .pointer (some ⟨b, 0, none⟩) ∧ b = w'.heap.size ∧ Bk w2 b q.2.1 q.2.2 ∧ Keep [] w' w2 ∧ w2.heap.size = w'.heap.size + 1) ?_ ?_
          · subst ho'
            intro a1 ha1 K Q hK
            refine ⟨fun _ => d_alloc (n := n) (f := []) hTy a1 ha1 _ _ _ _ K Q hK, fun h => by simp [Region.wanted] at h⟩
          · rintro v w2 ⟨b, rfl, rfl, hb, hkb, hsb⟩
            have hqne : ∀ q', q' ∈ fl → q'.1 ≠ q.1 → q.1 ≠ q'.1 := fun q' _ h e => h e.symm
            refine ih _ _ _ (by simpa using hs) (by omega) (hkput _) hun' hlp' hcl' (by omega) ⟨pre, rest, vs, setB bs q.1 w'.heap.size, h1, h2, PA.grow hgrow _ _ _ _ hkb h3, fun j hj hc => (h4 j hj hc).mono hj (fun j hj => ⟨hj, rfl⟩) hkb.weak, fun j hj hc => ?_, fun j hj => ?_, fun q' hq' hlq => ?_, fun j hj hc x hx => by have := h8 j hj hc x hx; omega, fun q1 q2 hq1 hq2 hl1 hl2 hne => ?_⟩
            · rw [getD_set_ne false (fun e => hnp (by rw [e]; exact hj))]; exact h5 j hj hc
            · by_cases hij : q.1 = j
              · exact .inl ⟨q, hqf, hij⟩
              · rw [getD_set_ne false hij] at hj
                rcases h6 j hj with h | ⟨m1, m2⟩
                · exact .inl h
                · have hpj := hplan j (hpre j m1)
                  exact .inr ⟨m1, fun hjd => by rw [hputo _ j hpj.1 hjd hij]; exact m2 hjd⟩
            · by_cases hqq : q.1 = q'.1
              · have hqe : q' = q := nd_eq hnd hqf hq' hqq
                subst hqe
                refine ⟨by rw [hput _ (hfd q' hqf), setB_same], by rw [setB_same]; omega, by rw [setB_same]; omega, by rw [setB_same]; exact hb, fun j hj hc x hx => ?_⟩
                rw [setB_same]
                have := h8 j hj hc x hx
                omega
              · rw [getD_set_ne false hqq] at hlq
                obtain ⟨m1, m2, m3, m4, m5⟩ := h7 q' hq' hlq
                rw [setB_other bs _ (Ne.symm hqq)]
                exact ⟨by rw [hputo _ q'.1 (hfl1 q' hq').1 (hfd q' hq') hqq]; exact m1, m2, by omega, m4.keep0 hkb, m5⟩
            · by_cases e1 : q.1 = q1.1
              · have e2 : q.1 ≠ q2.1 := fun e => hne (e1.symm.trans e)
                rw [getD_set_ne false e2] at hl2
                rw [← e1, setB_same, setB_other bs _ (Ne.symm e2)]
                have := (h7 q2 hq2 hl2).2.2.1
                omega
              · rw [getD_set_ne false e1] at hl1
                rw [setB_other bs _ (Ne.symm e1)]
                by_cases e2 : q.1 = q2.1
                · rw [← e2, setB_same]
                  have := (h7 q1 hq1 hl1).2.2.1
                  omega
                · rw [getD_set_ne false e2] at hl2
                  rw [setB_other bs _ (Ne.symm e2)]
                  exact h9 q1 q2 hq1 hq2 hl1 hl2 hne
  obtain ⟨pre', rest', vs', k1, k2, k3, k4, k5, k6⟩ := absorbA (f0 := f0) (T := T) (s0 := w.heap.size) (cb := fun i => cs.contains i) hdr hpl plan [] (fun _ => undef) _ heag hplan (h _ (keep_drew w)) (fun i hi => by cases hi)
  have hemp : ∀ i, ¬ (Array.replicate l.toArray.size false).getD i false = true := by
    intro i hi
    rw [Array.getD_eq_getD_getElem?] at hi
    rcases Nat.lt_or_ge i l.toArray.size with h' | h'
    · rw [Array.getElem?_eq_getElem (by simpa using h')] at hi; simp at hi
    · rw [Array.getElem?_eq_none (by simpa using h')] at hi; simp at hi
  refine key _ _ a _ (by simp) ?_ ha0 ?_ (fun i hi => absurd hi (hemp i)) (fun i _ hi => absurd hi (hemp i)) (Nat.le_refl _) ⟨pre', rest', vs', fun _ => 0, k1, k4, k5, k6, fun i hi hc => ?_, fun i hi => absurd hi (hemp i), fun q _ hq => absurd hq (hemp _), fun j hj hc => ?_, fun q q' _ _ hq => absurd hq (hemp _)⟩
  · unfold left
    have := List.countP_le_length (p := fun i => !(Array.replicate l.toArray.size false).getD i true) (l := List.range l.length)
    simpa using this
  · intro i _ hi
    rw [Array.getD_eq_getD_getElem?, Array.getElem?_eq_getElem (by simpa using hi)]; simp
  · rcases k3 i hi with h | h
    · cases h
    · rw [hc] at h; cases h
  · rcases k3 j hj with h | h
    · cases h
    · rw [hc] at h; cases h
theorem pa_nilX {l : List Oper} {p s0 dx : Nat} {T cs : List Nat} {fl : List (Nat × TypeId × List Value)} (h : ∀ w2, Keep [] w w2 → FinG P n l p s0 cs f (TailX P fin n k l p dx) fl [] f w2) : PA P n l p T s0 (fun i => cs.contains i) (fun f' w' => ∀ w2, Keep [] w' w2 → FinG P n l p s0 cs f' (TailX P fin n k l p dx) fl [] f' w2) [] f w := by unfold PA; exact h
theorem fing_nil {l : List Oper} {p s0 : Nat} {cs : List Nat} {fc : Fr} {G : Fr → World → Prop} {seen : List Nat} (h : G f w) : FinG P n l p s0 cs fc G [] seen f w := h
theorem tailx {l : List Oper} {p dx : Nat} (f13 : Fr) {op : Op} {ty : TypeId} {pos : String} {aft : Array Edge} {R : Value → World → Prop} (e : l[p]? = some ⟨none, op, ty, pos, aft, none⟩) (hs : Fr.sub f13 f) (hn : (f13.all fun q => q.1 != dx) = true) (hd : Does P n f13 w op ty R)
    (h : ∀ v w', R v w' → OW P fin n k l.toArray (l.drop (p + 1)) f w') : TailX P fin n k l p dx f w := ⟨f13, op, ty, pos, aft, R, e, hs, hn, hd, h⟩
end
end Go.Eng
namespace Go.Proofs.Ytkngeapegpehpaa.W
open Go Go.Eng Go.Byt
set_option linter.unusedVariables false
set_option linter.unusedSimpArgs false
open Go.Fld Go.Ed
attribute [local irreducible] encB
theorem decU_1 (y : Fp) : decU y = y * y - 1 := by unfold decU; rw [fp_one]
theorem decV_1 (y : Fp) : decV y = d * (y * y) + 1 := by unfold decV; rw [fp_one]
theorem rdec_b {xs : List UInt8} {z : Int} {c : Bool} (hz : Eqn z (gb xs 31 / 128)) (h : (!rootOk (decY xs * decY xs - 1) (d * (decY xs * decY xs) + 1) || (decide (z = 1) && decide (rootF (decY xs * decY xs - 1) (d * (decY xs * decY xs) + 1) = 0))) = c) :
    (!rootOk (decU (decY xs)) (decV (decY xs)) || (decOdd xs && decide (rootF (decU (decY xs)) (decV (decY xs)) = 0))) = c := by
  unfold Eqn at hz
  rw [decU_1, decV_1]; unfold decOdd; rw [← hz]; exact h
theorem rdec_xT {xs : List UInt8} {z : Int} (hz : Eqn z (gb xs 31 / 128)) (h : z = 1) : decX xs = 0 - rootF (decY xs * decY xs - 1) (d * (decY xs * decY xs) + 1) := by
  unfold Eqn at hz
  unfold decX; rw [if_pos (by unfold decOdd; rw [← hz]; exact decide_eq_true h), decU_1, decV_1]
theorem rdec_xF {xs : List UInt8} {z : Int} (hz : Eqn z (gb xs 31 / 128)) (h : ¬ z = 1) : decX xs = rootF (decY xs * decY xs - 1) (d * (decY xs * decY xs) + 1) := by
  unfold Eqn at hz
  unfold decX; rw [if_neg (by unfold decOdd; rw [← hz, decide_eq_false h]; decide), decU_1, decV_1]
set_option maxRecDepth 100000 in
set_option maxHeartbeats 1000000 in
theorem rdecode_no (v : Value) (xs : List UInt8) (w : World) (hv : RdB w v xs) (hx : xs.length ≠ 32) : Rets Try.prog 10 [v] w (fun u w' => ∃ r, u = .tuple #[.agg (iv .i64 64 r).toArray, .int .i64 1] ∧ RPt r zero ∧ Keep [] w w') := by
 have hB : Keep [] w w := Keep.refl _ _
 refine rets_of_tw Try.func10 rfl (by decide) Try.ntmps10 rfl (fun fin _ hfin => ?_)
 refine tw_seq (tw_region (ow_d (d_alloc ty38) rfl ?_))
 rintro _ w1 ⟨b1, rfl, eb1, hb1, k1, z1⟩
 have ge_b1 : w.heap.size ≤ b1 := by have := hB.size; omega
 replace hB := hB.trans k1
 clear eb1 z1
 replace hb1 : Bk w1 b1 38 (iv .i64 64 (fun _ => 0)) := by rw [iv, ivF_rep]; exact hb1
 refine ow_g (g_as rfl) rfl (ow_nil (tw_seq (tw_seq (tw_region (ow_g (g_mv rfl) rfl (ow_g (g_len Try.underlying22 rfl (by first | assumption | exact Own.rd ‹_› | exact Rd.keep0 ‹_› hB | exact Own.rd (Own.keep0 ‹_› hB))) rfl ?_))))))
 refine ow_g (g_ne rfl rfl) rfl ?_
 refine ow_nil (tw_ifT rfl (by omega) ?_)
 refine tw_seq (tw_region (ow_d (d_call (vs := []) rfl (rzero_any _)) rfl ?_))
 rintro _ w2 ⟨hh1, rfl, E1, k2⟩
 replace hb1 := hb1.keep0 k2
 replace hB := hB.trans k2
 refine ow_d0 (d_stw (vs := iv .i64 64 hh1) ty38 rfl rfl rfl ivF_one hb1 rfl) ?_
 rintro _ w3 ⟨hb2, k3, z2⟩
 replace hB := hB.new k3 (fun x hx => .inl ((List.mem_singleton.1 hx) ▸ ge_b1))
 clear z2
 refine ow_g (g_as rfl) rfl (ow_nil (tw_retct hfin Try.results10 rfl (run_loadAgg ag38 ty38 ‹_› rfl) rfl ?_))
 exact ⟨hh1, rfl, E1, hB⟩
set_option maxRecDepth 100000 in
set_option maxHeartbeats 1000000 in
theorem rdecode_32 (v : Value) (xs : List UInt8) (w : World) (hv : RdB w v xs) (hx : xs.length = 32) : Rets Try.prog 10 [v] w (fun u w' => ∃ p, u = .tuple #[.agg (iv .i64 64 p).toArray, .int .i64 (decE xs)] ∧ (decE xs = 0 → RPt p (decX xs, decY xs)) ∧ Keep [] w w') := by
 have hB : Keep [] w w := Keep.refl _ _
 refine rets_of_tw Try.func10 rfl (by decide) Try.ntmps10 rfl (fun fin _ hfin => ?_)
 refine tw_seq (tw_region (ow_d (d_alloc ty38) rfl ?_))
 rintro _ w1 ⟨b1, rfl, eb1, hb1, k1, z1⟩
 have ge_b1 : w.heap.size ≤ b1 := by have := hB.size; omega
 replace hB := hB.trans k1
 clear eb1 z1
 replace hb1 : Bk w1 b1 38 (iv .i64 64 (fun _ => 0)) := by rw [iv, ivF_rep]; exact hb1
 refine ow_g (g_as rfl) rfl (ow_nil (tw_seq (tw_seq (tw_region (ow_g (g_mv rfl) rfl (ow_g (g_len Try.underlying22 rfl (by first | assumption | exact Own.rd ‹_› | exact Rd.keep0 ‹_› hB | exact Own.rd (Own.keep0 ‹_› hB))) rfl ?_))))))
 refine ow_g (g_ne rfl rfl) rfl ?_
 refine ow_nil (tw_ifF rfl (by omega) ?_)
 refine tw_skip (tw_seq (tw_region (ow_g (g_mv rfl) rfl (ow_g (g_ix Try.underlying22 ty5 rfl (by first | assumption | exact Own.rd ‹_› | exact Rd.keep0 ‹_› hB | exact Own.rd (Own.keep0 ‹_› hB)) rfl (by omega)) rfl ?_))))
 refine ow_g (g_ldB sc5 rfl (by first | assumption | exact Own.rd ‹_› | exact Rd.keep0 ‹_› hB | exact Own.rd (Own.keep0 ‹_› hB)) (by omega)) rfl ?_
 refine ow_gx (e' := (gb xs (31)) / 128) (lo := 0) (hi := 1) (g_shrp (m := 128) rfl rfl (by decide) rfl) (rfl) (In.wk (in_div (gb_range xs (31)) (by decide)) rfl) rfl (fun z2 h1 r1 => ?_)
 refine ow_g (g_as rfl) rfl (ow_nil (tw_seq (tw_region ?_)))
 have gl_oa := hB.size
 have lt_b1 := hb1.lt
 refine ow_d (d_bs0 Try.underlying22 ty5 rfl) rfl ?_
 rintro _ wg ⟨g, rfl, hge, hg0, kg⟩
 replace hb1 := hb1.keep0 kg
 replace hB := hB.trans kg
 refine ow_g (g_mv rfl) rfl (ow_d (d_app0 (lo := w1.heap.size) Try.underlying22 ty5 rfl rfl rfl hg0 (hge ▸ Nat.le_refl _) rfl (hv.keep0 hB) (by omega)) rfl ?_)
 rintro va wa ⟨oa, ka⟩
 replace hb1 := hb1.keep0 ka
 replace hB := hB.trans ka
 have sb_b1_oa := fun x hx => (show x ≠ b1 from by have h1 := (oa.blk x hx).1; omega)
 refine ow_g (g_as rfl) rfl (ow_nil (tw_keep [(2, _), (4, _), (5, _)] ⟨rfl, rfl, rfl, trivial⟩ ?_))
 refine tw_seq (tw_region (ow_g (g_mv rfl) rfl (ow_g (g_mv rfl) rfl (ow_g (g_ix Try.underlying22 ty5 rfl (by first | assumption | exact Own.rd ‹_› | exact Rd.keep0 ‹_› hB | exact Own.rd (Own.keep0 ‹_› hB)) rfl (by omega)) rfl ?_))))
 refine ow_g (g_ldB sc5 rfl (Own.rd oa) (by omega)) rfl ?_
 refine ow_g (g_and rfl rfl) rfl ?_
 refine ow_g (g_ix Try.underlying22 ty5 rfl (by first | assumption | exact Own.rd ‹_› | exact Rd.keep0 ‹_› hB | exact Own.rd (Own.keep0 ‹_› hB)) rfl (by omega)) rfl ?_
 refine ow_d0 (d_sto (u := .int .u8 _) ty5 rfl rfl rfl oa (by rw [bv_length, hx]; decide)) ?_
 rintro _ w99 ⟨ow2, k99, z99⟩
 replace hB := hB.new k99 (fun x hx => .inl (Nat.le_trans gl_oa (oa.blk x hx).1))
 replace ow2 : OwnB w99 w.heap.size va (decLow xs) := by unfold OwnB decLow; rw [List.length_set, ← bv_setB (bits_in (k := .u8) rfl _ _ _), ← and127 (gb_range xs 31)]; exact ow2.lo gl_oa
 replace hb1 := hb1.keep k99 (fun hm => sb_b1_oa _ hm rfl)
 refine ow_nil (tw_seq (tw_region (ow_g (g_mv rfl) rfl (ow_d (d_call (vs := [_]) rfl (rfrom_any _ (decLow xs) _ ow2.rd (decLow_len xs hx))) rfl ?_))))
 rintro _ w2 ⟨hh1, rfl, E1, k2⟩
 replace hb1 := hb1.keep0 k2
 replace ow2 := ow2.keep0 k2
 replace hB := hB.trans k2
 refine ow_d (d_alloc ty36) rfl ?_
 rintro _ w3 ⟨b2, rfl, eb2, hb2, k3, z3⟩
 have ge_b2 : w.heap.size ≤ b2 := by have := hB.size; omega
 have ne_b1_b2 : b1 ≠ b2 := by have := hb1.lt; omega
 have sb_b2_ow2 := fun x hx => (show x ≠ b2 from by have := (ow2.blk x hx).2; omega)
 replace hb1 := hb1.keep0 k3
 replace ow2 := ow2.keep0 k3
 replace hB := hB.trans k3
 clear eb2 z3
 replace hb2 : Bk w3 b2 36 (iv .i64 16 (fun _ => 0)) := by rw [iv, ivF_rep]; exact hb2
 refine ow_d0 (d_stw (vs := iv .i64 16 hh1) ty36 rfl rfl rfl ivF_one hb2 rfl) ?_
 rintro _ w4 ⟨hb3, k4, z4⟩
 replace hb1 := hb1.keep k4 (fun hm => absurd (List.mem_singleton.1 hm) ne_b1_b2)
 replace ow2 := ow2.keep k4 (fun x hx hm => sb_b2_ow2 x hx (List.mem_singleton.1 hm))
 replace hB := hB.new k4 (fun x hx => .inl ((List.mem_singleton.1 hx) ▸ ge_b2))
 clear z4
 refine ow_nil (tw_seq (tw_seq (tw_plan 6 [0, 3, 4, 1, 2, 5] [1] [] mixed [(6, _), (5, _), (2, _), (4, _)] ⟨rfl, rfl, rfl, rfl, trivial⟩ (by decide +kernel) rfl (fun w5 k5 => ?_))))
 replace hb1 := hb1.keep0 k5
 replace ow2 := ow2.keep0 k5
 replace hb3 := hb3.keep0 k5
 replace hB := hB.trans k5
 refine pw_g [(6, _)] rfl rfl ⟨rfl, trivial⟩ rfl (fun W' kk => g_ldab (cs' := iv .i64 16 hh1) ag36 ty36 rfl (Bk.keep0 hb3 kk) rfl rfl) ?_
 refine pw_g [(5, _)] rfl rfl ⟨rfl, trivial⟩ rfl (fun W' kk => g_mv rfl) ?_
 refine pw_g [(33, _)] rfl rfl ⟨rfl, trivial⟩ rfl (fun W' kk => g_str Try.underlying22 Try.underlying5 Try.underlying9 rfl (by first | exact Rd.keep0 ‹_› kk | exact Rd.keep0 (Own.rd ‹_›) kk | exact Rd.keep0 (Rd.keep0 ‹_› hB) kk | exact Rd.keep0 (Own.rd (Own.keep0 ‹_› hB)) kk)) ?_
 refine pw_d [(30, _)] rfl rfl ⟨rfl, trivial⟩ rfl (d_call (vs := [_]) rfl (rbytes_any _ _ E1 _)) ?_
 rintro v1 w6 ⟨o1, k6⟩
 refine ⟨k6, ?_⟩
 have gl_o1 := hB.size
 have sb_b1_o1 := fun x hx => (show x ≠ b1 from by have h1 := (o1.blk x hx).1; have h2 := hb1.lt; omega)
 have sb_b2_o1 := fun x hx => (show x ≠ b2 from by have h1 := (o1.blk x hx).1; have h2 := hb3.lt; omega)
 replace hb1 := hb1.keep0 k6
 replace ow2 := ow2.keep0 k6
 replace hb3 := hb3.keep0 k6
 replace hB := hB.trans k6
 have u_o1 := o1.blk
 refine pw_g [(31, _)] rfl rfl ⟨rfl, trivial⟩ rfl (fun W' kk => g_str Try.underlying22 Try.underlying5 Try.underlying9 rfl (by first | exact Rd.keep0 ‹_› kk | exact Rd.keep0 (Own.rd ‹_›) kk | exact Rd.keep0 (Rd.keep0 ‹_› hB) kk | exact Rd.keep0 (Own.rd (Own.keep0 ‹_› hB)) kk)) ?_
 refine pw_g [(32, _), (34, _)] rfl rfl ⟨rfl, rfl, trivial⟩ rfl (fun W' kk => g_nes rfl rfl) ?_
 refine pw_nil ?_
 refine ow_nil (tw_if rfl (fun hc1 => ?_) (fun hc1 => ?_))
 ·
  refine tw_seq (tw_region (ow_d (d_call (vs := []) rfl (rzero_any _)) rfl ?_))
  rintro _ w7 ⟨hh2, rfl, E2, k7⟩
  replace hb1 := hb1.keep0 k7
  replace ow2 := ow2.keep0 k7
  replace hb3 := hb3.keep0 k7
  replace o1 := o1.keep0 k7
  replace hB := hB.trans k7
  refine ow_d0 (d_stw (vs := iv .i64 64 hh2) ty38 rfl rfl rfl ivF_one hb1 rfl) ?_
  rintro _ w8 ⟨hb4, k8, z5⟩
  replace ow2 := ow2.keep k8 (fun x hx hm => sb_b1_oa x hx (List.mem_singleton.1 hm))
  replace hb3 := hb3.keep k8 (fun hm => absurd (List.mem_singleton.1 hm) (Ne.symm ne_b1_b2))
  replace o1 := o1.keep k8 (fun x hx hm => sb_b1_o1 x hx (List.mem_singleton.1 hm))
  replace hB := hB.new k8 (fun x hx => .inl ((List.mem_singleton.1 hx) ▸ ge_b1))
  clear z5
  refine ow_g (g_as rfl) rfl (ow_nil (tw_keep [(2, _), (3, _)] ⟨rfl, rfl, trivial⟩ ?_))
  refine tw_retct hfin Try.results10 rfl (run_loadAgg ag38 ty38 ‹_› rfl) rfl ?_
  have he := dec_e1 hx hc1
  exact ⟨_, by rw [he], fun h => by rw [he] at h; exact absurd h (by decide), hB⟩
 ·
  refine tw_skip (tw_seq (tw_region (ow_d (d_call (vs := [_]) rfl (rsmall_any 1 (by decide) _)) rfl ?_)))
  rintro _ w9 ⟨hh3, rfl, E3, C1, k9⟩
  replace hb1 := hb1.keep0 k9
  replace ow2 := ow2.keep0 k9
  replace hb3 := hb3.keep0 k9
  replace o1 := o1.keep0 k9
  replace hB := hB.trans k9
  replace E3 : RN hh3 1 := fp_one ▸ E3
  refine ow_d (d_alloc ty36) rfl ?_
  rintro _ w10 ⟨b3, rfl, eb3, hb5, k10, z6⟩
  have ge_b3 : w.heap.size ≤ b3 := by have := hB.size; omega
  have ne_b1_b3 : b1 ≠ b3 := by have := hb1.lt; omega
  have sb_b3_ow2 := fun x hx => (show x ≠ b3 from by have := (ow2.blk x hx).2; omega)
  have ne_b2_b3 : b2 ≠ b3 := by have := hb3.lt; omega
  have sb_b3_o1 := fun x hx => (show x ≠ b3 from by have := (o1.blk x hx).2; omega)
  replace hb1 := hb1.keep0 k10
  replace ow2 := ow2.keep0 k10
  replace hb3 := hb3.keep0 k10
  replace o1 := o1.keep0 k10
  replace hB := hB.trans k10
  clear eb3 z6
  replace hb5 : Bk w10 b3 36 (iv .i64 16 (fun _ => 0)) := by rw [iv, ivF_rep]; exact hb5
  refine ow_d0 (d_stw (vs := iv .i64 16 hh3) ty36 rfl rfl rfl ivF_one hb5 rfl) ?_
  rintro _ w11 ⟨hb6, k11, z7⟩
  replace hb1 := hb1.keep k11 (fun hm => absurd (List.mem_singleton.1 hm) ne_b1_b3)
  replace ow2 := ow2.keep k11 (fun x hx hm => sb_b3_ow2 x hx (List.mem_singleton.1 hm))
  replace hb3 := hb3.keep k11 (fun hm => absurd (List.mem_singleton.1 hm) ne_b2_b3)
  replace o1 := o1.keep k11 (fun x hx hm => sb_b3_o1 x hx (List.mem_singleton.1 hm))
  replace hB := hB.new k11 (fun x hx => .inl ((List.mem_singleton.1 hx) ▸ ge_b3))
  clear z7
  refine ow_nil (tw_seq (tw_region (ow_g (g_ldab (cs' := iv .i64 16 hh1) ag36 ty36 rfl hb3 rfl rfl) rfl ?_)))
  refine ow_g (g_ldab (cs' := iv .i64 16 hh1) ag36 ty36 rfl hb3 rfl rfl) rfl ?_
  refine ow_d (d_call (vs := [_, _]) rfl (rtimes_any _ _ _ _ E1 E1 _)) rfl ?_
  rintro _ w12 ⟨hh4, rfl, E4, k12⟩
  replace hb1 := hb1.keep0 k12
  replace ow2 := ow2.keep0 k12
  replace hb3 := hb3.keep0 k12
  replace o1 := o1.keep0 k12
  replace hb6 := hb6.keep0 k12
  replace hB := hB.trans k12
  refine ow_d (d_alloc ty36) rfl ?_
  rintro _ w13 ⟨b4, rfl, eb4, hb7, k13, z8⟩
  have ge_b4 : w.heap.size ≤ b4 := by have := hB.size; omega
  have ne_b1_b4 : b1 ≠ b4 := by have := hb1.lt; omega
  have sb_b4_ow2 := fun x hx => (show x ≠ b4 from by have := (ow2.blk x hx).2; omega)
  have ne_b2_b4 : b2 ≠ b4 := by have := hb3.lt; omega
  have sb_b4_o1 := fun x hx => (show x ≠ b4 from by have := (o1.blk x hx).2; omega)
  have ne_b3_b4 : b3 ≠ b4 := by have := hb6.lt; omega
  replace hb1 := hb1.keep0 k13
  replace ow2 := ow2.keep0 k13
  replace hb3 := hb3.keep0 k13
  replace o1 := o1.keep0 k13
  replace hb6 := hb6.keep0 k13
  replace hB := hB.trans k13
  clear eb4 z8
  replace hb7 : Bk w13 b4 36 (iv .i64 16 (fun _ => 0)) := by rw [iv, ivF_rep]; exact hb7
  refine ow_d0 (d_stw (vs := iv .i64 16 hh4) ty36 rfl rfl rfl ivF_one hb7 rfl) ?_
  rintro _ w14 ⟨hb8, k14, z9⟩
  replace hb1 := hb1.keep k14 (fun hm => absurd (List.mem_singleton.1 hm) ne_b1_b4)
  replace ow2 := ow2.keep k14 (fun x hx hm => sb_b4_ow2 x hx (List.mem_singleton.1 hm))
  replace hb3 := hb3.keep k14 (fun hm => absurd (List.mem_singleton.1 hm) ne_b2_b4)
  replace o1 := o1.keep k14 (fun x hx hm => sb_b4_o1 x hx (List.mem_singleton.1 hm))
  replace hb6 := hb6.keep k14 (fun hm => absurd (List.mem_singleton.1 hm) ne_b3_b4)
  replace hB := hB.new k14 (fun x hx => .inl ((List.mem_singleton.1 hx) ▸ ge_b4))
  clear z9
  refine ow_nil (tw_keep [(6, _), (2, _), (4, _), (7, _), (8, _)] ⟨rfl, rfl, rfl, rfl, rfl, trivial⟩ ?_)
  refine tw_seq ?_
  have gs1 := hB.size
  have lt1 := hb1.lt
  have lt2 := fun x hx => (ow2.blk x hx).2
  have lt3 := hb3.lt
  have lt4 := fun x hx => (o1.blk x hx).2
  have lt5 := hb6.lt
  have lt6 := hb8.lt
  refine tw_planX 13 [0, 1, 4, 6, 2, 3, 5, 7, 8, 9, 10, 11] [2, 3, 5, 7, 8] [] [(12, 36, List.replicate 16 (.int .i64 0))] (x := 11) rfl mixed [(8, _), (7, _), (6, _), (2, _), (4, _)] ⟨rfl, rfl, rfl, rfl, rfl, trivial⟩ (by decide +kernel) (by decide) (by decide) ?_ (fun x hx => by cases hx) rfl (fun w15 k15 => ?_)
  · simp only [List.forall_mem_cons]; exact ⟨⟨_, _, _, _, _, _, rfl, ty36⟩, fun q hq => by cases hq⟩
  replace hb1 := hb1.keep0 k15
  replace ow2 := ow2.keep0 k15
  replace hb3 := hb3.keep0 k15
  replace o1 := o1.keep0 k15
  replace hb6 := hb6.keep0 k15
  replace hb8 := hb8.keep0 k15
  replace hB := hB.trans k15
  refine pa_g [(8, _)] rfl rfl ⟨rfl, trivial⟩ rfl (fun W' kk => g_ldab (cs' := iv .i64 16 hh4) ag36 ty36 rfl (Bk.keep0 hb8 kk) rfl rfl) ?_
  refine pa_g [(7, _)] rfl rfl ⟨rfl, trivial⟩ rfl (fun W' kk => g_ldab (cs' := iv .i64 16 hh3) ag36 ty36 rfl (Bk.keep0 hb6 kk) rfl rfl) ?_
  refine pa_g [(8, _)] rfl rfl ⟨rfl, trivial⟩ rfl (fun W' kk => g_ldab (cs' := iv .i64 16 hh4) ag36 ty36 rfl (Bk.keep0 hb8 kk) rfl rfl) ?_
  refine pa_g [(7, _)] rfl rfl ⟨rfl, trivial⟩ rfl (fun W' kk => g_ldab (cs' := iv .i64 16 hh3) ag36 ty36 rfl (Bk.keep0 hb6 kk) rfl rfl) ?_
  refine pa_d [(42, _), (43, _)] rfl rfl ⟨rfl, rfl, trivial⟩ rfl (fun w17 k17 => ?_)
  replace hb1 := hb1.keep0 k17
  replace ow2 := ow2.keep0 k17
  replace hb3 := hb3.keep0 k17
  replace o1 := o1.keep0 k17
  replace hb6 := hb6.keep0 k17
  replace hb8 := hb8.keep0 k17
  replace hB := hB.trans k17
  refine (d_call (vs := [_, _]) rfl (rminus_any _ _ _ _ E4 E3 _)).mono ?_
  rintro _ w16 ⟨hh5, rfl, E5, k16⟩
  refine ⟨k16, (fun x hx => by have hx : x ∈ ([] : List Nat) := hx; cases hx), ?_⟩
  replace hb1 := hb1.keep0 k16
  replace ow2 := ow2.keep0 k16
  replace hb3 := hb3.keep0 k16
  replace o1 := o1.keep0 k16
  replace hb6 := hb6.keep0 k16
  replace hb8 := hb8.keep0 k16
  replace hB := hB.trans k16
  refine pa_d [] rfl rfl trivial rfl (fun w19 k19 => ?_)
  replace hb1 := hb1.keep0 k19
  replace ow2 := ow2.keep0 k19
  replace hb3 := hb3.keep0 k19
  replace o1 := o1.keep0 k19
  replace hb6 := hb6.keep0 k19
  replace hb8 := hb8.keep0 k19
  replace hB := hB.trans k19
  refine (d_call (vs := []) rfl (rd_any _)).mono ?_
  rintro _ w18 ⟨hh6, rfl, E6, k18⟩
  refine ⟨k18, (fun x hx => by have hx : x ∈ ([] : List Nat) := hx; cases hx), ?_⟩
  replace hb1 := hb1.keep0 k18
  replace ow2 := ow2.keep0 k18
  replace hb3 := hb3.keep0 k18
  replace o1 := o1.keep0 k18
  replace hb6 := hb6.keep0 k18
  replace hb8 := hb8.keep0 k18
  replace hB := hB.trans k18
  refine pa_d [(45, _), (46, _)] rfl rfl ⟨rfl, rfl, trivial⟩ rfl (fun w21 k21 => ?_)
  replace hb1 := hb1.keep0 k21
  replace ow2 := ow2.keep0 k21
  replace hb3 := hb3.keep0 k21
  replace o1 := o1.keep0 k21
  replace hb6 := hb6.keep0 k21
  replace hb8 := hb8.keep0 k21
  replace hB := hB.trans k21
  refine (d_call (vs := [_, _]) rfl (rtimes_any _ _ _ _ E6 E4 _)).mono ?_
  rintro _ w20 ⟨hh7, rfl, E7, k20⟩
  refine ⟨k20, (fun x hx => by have hx : x ∈ ([] : List Nat) := hx; cases hx), ?_⟩
  replace hb1 := hb1.keep0 k20
  replace ow2 := ow2.keep0 k20
  replace hb3 := hb3.keep0 k20
  replace o1 := o1.keep0 k20
  replace hb6 := hb6.keep0 k20
  replace hb8 := hb8.keep0 k20
  replace hB := hB.trans k20
  refine pa_d [(47, _), (48, _)] rfl rfl ⟨rfl, rfl, trivial⟩ rfl (fun w23 k23 => ?_)
  replace hb1 := hb1.keep0 k23
  replace ow2 := ow2.keep0 k23
  replace hb3 := hb3.keep0 k23
  replace o1 := o1.keep0 k23
  replace hb6 := hb6.keep0 k23
  replace hb8 := hb8.keep0 k23
  replace hB := hB.trans k23
  refine (d_call (vs := [_, _]) rfl (rplus_any _ _ _ _ E7 E3 _)).mono ?_
  rintro _ w22 ⟨hh8, rfl, E8, k22⟩
  refine ⟨k22, (fun x hx => by have hx : x ∈ ([] : List Nat) := hx; cases hx), ?_⟩
  replace hb1 := hb1.keep0 k22
  replace ow2 := ow2.keep0 k22
  replace hb3 := hb3.keep0 k22
  replace o1 := o1.keep0 k22
  replace hb6 := hb6.keep0 k22
  replace hb8 := hb8.keep0 k22
  replace hB := hB.trans k22
  refine pa_d [(44, _), (49, _)] rfl rfl ⟨rfl, rfl, trivial⟩ rfl (fun w25 k25 => ?_)
  replace hb1 := hb1.keep0 k25
  replace ow2 := ow2.keep0 k25
  replace hb3 := hb3.keep0 k25
  replace o1 := o1.keep0 k25
  replace hb6 := hb6.keep0 k25
  replace hb8 := hb8.keep0 k25
  replace hB := hB.trans k25
  refine (d_call (vs := [_, _]) rfl (rratio_any _ _ _ _ E5 E8 _)).mono ?_
  rintro _ w24 ⟨hh9, rfl, E9, k24⟩
  refine ⟨k24, (fun x hx => by have hx : x ∈ ([] : List Nat) := hx; cases hx), ?_⟩
  replace hb1 := hb1.keep0 k24
  replace ow2 := ow2.keep0 k24
  replace hb3 := hb3.keep0 k24
  replace o1 := o1.keep0 k24
  replace hb6 := hb6.keep0 k24
  replace hb8 := hb8.keep0 k24
  replace hB := hB.trans k24
  refine pa_g [(50, _)] rfl rfl ⟨rfl, trivial⟩ rfl (fun W' kk => g_mv rfl) ?_
  refine pa_g [(41, _)] rfl rfl ⟨rfl, trivial⟩ rfl (fun W' kk => g_ext (vs := [_, _]) rfl rfl) ?_
  refine pa_g [(41, _)] rfl rfl ⟨rfl, trivial⟩ rfl (fun W' kk => g_ext (vs := [_, _]) rfl rfl) ?_
  refine pa_nilX (fun w26 k26 => ?_)
  replace hb1 := hb1.keep0 k26
  replace ow2 := ow2.keep0 k26
  replace hb3 := hb3.keep0 k26
  replace o1 := o1.keep0 k26
  replace hb6 := hb6.keep0 k26
  replace hb8 := hb8.keep0 k26
  replace hB := hB.trans k26
  intro b5 eb5 lb1 hb9 ds1 sp1
  have ge_b5 : w.heap.size ≤ b5 := Nat.le_trans gs1 eb5
  have ne_b1_b5 : b1 ≠ b5 := Nat.ne_of_lt (Nat.lt_of_lt_of_le lt1 eb5)
  have sb_b5_ow2 := fun x hx => (Nat.ne_of_lt (Nat.lt_of_lt_of_le (lt2 x hx) eb5))
  have ne_b2_b5 : b2 ≠ b5 := Nat.ne_of_lt (Nat.lt_of_lt_of_le lt3 eb5)
  have sb_b5_o1 := fun x hx => (Nat.ne_of_lt (Nat.lt_of_lt_of_le (lt4 x hx) eb5))
  have ne_b3_b5 : b3 ≠ b5 := Nat.ne_of_lt (Nat.lt_of_lt_of_le lt5 eb5)
  have ne_b4_b5 : b4 ≠ b5 := Nat.ne_of_lt (Nat.lt_of_lt_of_le lt6 eb5)
  replace hb9 : Bk w26 b5 36 (iv .i64 16 (fun _ => 0)) := by rw [iv, ivF_rep]; exact hb9
  refine fing_nil ?_
  refine tailx [(9, _), (51, _)] rfl ⟨rfl, rfl, trivial⟩ rfl (d_stw (vs := iv .i64 16 hh9) ty36 rfl rfl rfl ivF_one hb9 rfl) ?_
  rintro _ w27 ⟨hb10, k27, z10⟩
  replace hb1 := hb1.keep k27 (fun hm => absurd (List.mem_singleton.1 hm) ne_b1_b5)
  replace ow2 := ow2.keep k27 (fun x hx hm => sb_b5_ow2 x hx (List.mem_singleton.1 hm))
  replace hb3 := hb3.keep k27 (fun hm => absurd (List.mem_singleton.1 hm) ne_b2_b5)
  replace o1 := o1.keep k27 (fun x hx hm => sb_b5_o1 x hx (List.mem_singleton.1 hm))
  replace hb6 := hb6.keep k27 (fun hm => absurd (List.mem_singleton.1 hm) ne_b3_b5)
  replace hb8 := hb8.keep k27 (fun hm => absurd (List.mem_singleton.1 hm) ne_b4_b5)
  replace hB := hB.new k27 (fun x hx => .inl ((List.mem_singleton.1 hx) ▸ ge_b5))
  clear z10
  refine ow_g (g_as rfl) rfl (ow_nil (tw_keep [(6, _), (2, _), (4, _), (9, _), (10, _)] ⟨rfl, rfl, rfl, rfl, rfl, trivial⟩ ?_))
  refine tw_seq (tw_seq (tw_planA 11 [0, 1, 2, 3, 4, 5, 6, 7, 8, 9, 10] [7, 8] [] [] mixed [(10, _), (4, _), (9, _), (6, _), (2, _)] ⟨rfl, rfl, rfl, rfl, rfl, trivial⟩ (by decide +kernel) (by decide) (by decide) ?_ (fun x hx => by cases hx) rfl (fun w28 k28 => ?_)))
  · intro q hq; cases hq
  replace hb1 := hb1.keep0 k28
  replace ow2 := ow2.keep0 k28
  replace hb3 := hb3.keep0 k28
  replace o1 := o1.keep0 k28
  replace hb10 := hb10.keep0 k28
  replace hB := hB.trans k28
  refine pa_g [(10, _)] rfl rfl ⟨rfl, trivial⟩ rfl (fun W' kk => g_mv rfl) ?_
  refine pa_g [(53, _)] rfl rfl ⟨rfl, trivial⟩ rfl (fun W' kk => g_not rfl) ?_
  refine pa_g [(54, _)] rfl rfl ⟨rfl, trivial⟩ rfl (fun W' kk => g_mv rfl) ?_
  refine pa_grp 55 false rfl (fun c1 hgc1 => ?_)
  refine pa_gg [(4, _), (55, _)] [(4, _)] rfl rfl ⟨rfl, rfl, trivial⟩ rfl (grd1 rfl rfl rfl hgc1) ⟨und0 rfl, trivial⟩ (fun hw1 => (fun W' kk => g_mv rfl)) ?_
  refine pa_gg [(55, _), (56, _)] [(56, _)] rfl rfl ⟨rfl, rfl, trivial⟩ rfl (grd1 rfl rfl rfl hgc1) ⟨und1 rfl, trivial⟩ (fun hw2 => (fun W' kk => g_eq rfl rfl)) ?_
  refine pa_gg [(55, _), (57, _)] [(57, _)] rfl rfl ⟨rfl, rfl, trivial⟩ rfl (grd1 rfl rfl rfl hgc1) ⟨und1 rfl, trivial⟩ (fun hw3 => (fun W' kk => g_mv rfl)) ?_
  refine pa_grp2 58 true rfl (fun c2 hgc2 => ?_)
  refine pa_gg [(9, _), (58, _)] [(9, _)] rfl rfl ⟨rfl, rfl, trivial⟩ rfl (grd2 rfl rfl rfl hgc2) ⟨und0 rfl, trivial⟩ (fun hw4 => (fun W' kk => g_ldab (cs' := iv .i64 16 hh9) ag36 ty36 rfl (Bk.keep0 hb10 kk) rfl rfl)) ?_
  refine pa_gdk (V := .agg (iv .i64 16 (fun _ => 0)).toArray) [(58, _)] [] rfl rfl ⟨rfl, trivial⟩ rfl (grd2 rfl rfl rfl hgc2) trivial rfl (fun W1 kk hw5 => (d_call (vs := [_]) rfl (rsmall_zero _)).mono (by rintro _ w29 ⟨rfl, k29⟩; exact ⟨rfl, k29⟩)) (fun w30 k30 => ?_)
  replace hb1 := hb1.keep0 k30
  replace ow2 := ow2.keep0 k30
  replace hb3 := hb3.keep0 k30
  replace o1 := o1.keep0 k30
  replace hb10 := hb10.keep0 k30
  replace hB := hB.trans k30
  refine pa_gdk (V := .bool (decide ((rootF (((decY xs) * (decY xs)) - 1) ((d * ((decY xs) * (decY xs))) + 1)) = 0))) [(58, _), (59, _), (60, _)] [(59, _), (60, _)] rfl rfl ⟨rfl, rfl, rfl, trivial⟩ rfl (grd2 rfl rfl rfl hgc2) ⟨und1 rfl, und1 rfl, trivial⟩ rfl (fun W1 kk hw6 => (d_call (vs := [_, _]) rfl (rsame_any _ _ _ _ E9 rn_zero _)).mono (by rintro _ w31 ⟨rfl, k31⟩; exact ⟨rfl, k31⟩)) (fun w32 k32 => ?_)
  replace hb1 := hb1.keep0 k32
  replace ow2 := ow2.keep0 k32
  replace hb3 := hb3.keep0 k32
  replace o1 := o1.keep0 k32
  replace hb10 := hb10.keep0 k32
  replace hB := hB.trans k32
  refine pa_pand (dj := 0) [(55, _), (58, _), (61, _)] rfl rfl ⟨rfl, rfl, rfl, trivial⟩ rfl (grd1 rfl rfl rfl hgc1) (und1 rfl) rfl hgc2 rfl ?_
  refine pa_g [(55, _), (62, _)] rfl rfl ⟨rfl, rfl, trivial⟩ rfl (fun W' kk => g_por rfl rfl hgc1) ?_
  refine pa_nil (fun w33 k33 => ?_)
  replace hb1 := hb1.keep0 k33
  replace ow2 := ow2.keep0 k33
  replace hb3 := hb3.keep0 k33
  replace o1 := o1.keep0 k33
  replace hb10 := hb10.keep0 k33
  replace hB := hB.trans k33
  refine fina_nil ?_
  refine ow_nil (tw_keep [(4, _), (9, _), (6, _), (2, _), (63, _)] ⟨rfl, rfl, rfl, rfl, rfl, trivial⟩ ?_)
  refine tw_cond rfl (fun hc2 => ?_) (fun hc2 => ?_)
  ·
   have hd1 := hc2
   try (simp only [Bool.and_eq_true, Bool.or_eq_true, decide_eq_true_eq, Bool.and_eq_false_iff, Bool.or_eq_false_iff, decide_eq_false_iff_not, Bool.not_eq_true', Bool.not_eq_false', Bool.not_eq_true, Bool.not_eq_false, ne_eq, Decidable.not_not, decide_true, decide_false, Bool.true_and, Bool.false_and, Bool.or_false, Bool.false_or, not_true_eq_false, false_or, or_false, true_and, and_true, not_false_eq_true, reduceCtorEq] at hd1)
   refine tw_seq (tw_region (ow_d (d_call (vs := []) rfl (rzero_any _)) rfl ?_))
   rintro _ w34 ⟨hh10, rfl, E10, k34⟩
   replace hb1 := hb1.keep0 k34
   replace ow2 := ow2.keep0 k34
   replace hb3 := hb3.keep0 k34
   replace o1 := o1.keep0 k34
   replace hb10 := hb10.keep0 k34
   replace hB := hB.trans k34
   refine ow_d0 (d_stw (vs := iv .i64 64 hh10) ty38 rfl rfl rfl ivF_one hb1 rfl) ?_
   rintro _ w35 ⟨hb11, k35, z11⟩
   replace ow2 := ow2.keep k35 (fun x hx hm => sb_b1_oa x hx (List.mem_singleton.1 hm))
   replace hb3 := hb3.keep k35 (fun hm => absurd (List.mem_singleton.1 hm) (Ne.symm ne_b1_b2))
   replace o1 := o1.keep k35 (fun x hx hm => sb_b1_o1 x hx (List.mem_singleton.1 hm))
   replace hb10 := hb10.keep k35 (fun hm => absurd (List.mem_singleton.1 hm) (Ne.symm ne_b1_b5))
   replace hB := hB.new k35 (fun x hx => .inl ((List.mem_singleton.1 hx) ▸ ge_b1))
   clear z11
   refine ow_g (g_as rfl) rfl (ow_nil (tw_retct hfin Try.results10 rfl (run_loadAgg ag38 ty38 ‹_› rfl) rfl ?_))
   have he := dec_e2 (z := 0) hx (not_not_intro (Decidable.of_not_not hc1)) (rdec_b h1 hc2)
   exact ⟨_, by rw [he], fun h => by rw [he] at h; exact absurd h (by decide), hB⟩
  ·
   have hd2 := hc2
   try (simp only [Bool.and_eq_true, Bool.or_eq_true, decide_eq_true_eq, Bool.and_eq_false_iff, Bool.or_eq_false_iff, decide_eq_false_iff_not, Bool.not_eq_true', Bool.not_eq_false', Bool.not_eq_true, Bool.not_eq_false, ne_eq, Decidable.not_not, decide_true, decide_false, Bool.true_and, Bool.false_and, Bool.or_false, Bool.false_or, not_true_eq_false, false_or, or_false, true_and, and_true, not_false_eq_true, reduceCtorEq] at hd2)
   refine tw_skip (tw_seq (tw_seq (tw_region (ow_g (g_mv rfl) rfl (ow_g (g_eq rfl rfl) rfl ?_)))))
   refine ow_nil (tw_if rfl (fun hc3 => ?_) (fun hc3 => ?_))
   ·
    refine tw_plan 2 [1, 0] [0] [] mixed [(9, _), (6, _), (2, _)] ⟨rfl, rfl, rfl, trivial⟩ (by decide +kernel) rfl (fun w36 k36 => ?_)
    replace hb1 := hb1.keep0 k36
    replace ow2 := ow2.keep0 k36
    replace hb3 := hb3.keep0 k36
    replace o1 := o1.keep0 k36
    replace hb10 := hb10.keep0 k36
    replace hB := hB.trans k36
    refine pw_g [(9, _)] rfl rfl ⟨rfl, trivial⟩ rfl (fun W' kk => g_ldab (cs' := iv .i64 16 hh9) ag36 ty36 rfl (Bk.keep0 hb10 kk) rfl rfl) ?_
    refine pw_d [] rfl rfl trivial rfl (d_call (vs := [_]) rfl (rsmall_zero _)) ?_
    rintro _ w37 ⟨rfl, k37⟩
    refine ⟨k37, ?_⟩
    replace hb1 := hb1.keep0 k37
    replace ow2 := ow2.keep0 k37
    replace hb3 := hb3.keep0 k37
    replace o1 := o1.keep0 k37
    replace hb10 := hb10.keep0 k37
    replace hB := hB.trans k37
    refine pw_nil ?_
    refine ow_d (d_call (vs := [_, _]) rfl (rminus_any _ _ _ _ rn_zero E9 _)) rfl ?_
    rintro _ w38 ⟨hh11, rfl, E11, k38⟩
    replace hb1 := hb1.keep0 k38
    replace ow2 := ow2.keep0 k38
    replace hb3 := hb3.keep0 k38
    replace o1 := o1.keep0 k38
    replace hb10 := hb10.keep0 k38
    replace hB := hB.trans k38
    refine ow_d0 (d_stw (vs := iv .i64 16 hh11) ty36 rfl rfl rfl ivF_one hb10 rfl) ?_
    rintro _ w39 ⟨hb12, k39, z12⟩
    replace hb1 := hb1.keep k39 (fun hm => absurd (List.mem_singleton.1 hm) ne_b1_b5)
    replace ow2 := ow2.keep k39 (fun x hx hm => sb_b5_ow2 x hx (List.mem_singleton.1 hm))
    replace hb3 := hb3.keep k39 (fun hm => absurd (List.mem_singleton.1 hm) ne_b2_b5)
    replace o1 := o1.keep k39 (fun x hx hm => sb_b5_o1 x hx (List.mem_singleton.1 hm))
    replace hB := hB.new k39 (fun x hx => .inl ((List.mem_singleton.1 hx) ▸ ge_b5))
    clear z12
    refine ow_nil (tw_seq (tw_region (ow_g (g_ldab (cs' := iv .i64 16 hh11) ag36 ty36 rfl hb12 rfl rfl) rfl ?_)))
    refine ow_g (g_ldab (cs' := iv .i64 16 hh1) ag36 ty36 rfl hb3 rfl rfl) rfl ?_
    refine ow_d (d_call (vs := [_, _]) rfl (rof_any _ _ _ _ E11 E1 _)) rfl ?_
    rintro _ w40 ⟨hh12, rfl, E12, k40⟩
    replace hb1 := hb1.keep0 k40
    replace ow2 := ow2.keep0 k40
    replace hb3 := hb3.keep0 k40
    replace o1 := o1.keep0 k40
    replace hb12 := hb12.keep0 k40
    replace hB := hB.trans k40
    refine ow_d0 (d_stw (vs := iv .i64 64 hh12) ty38 rfl rfl rfl ivF_one hb1 rfl) ?_
    rintro _ w41 ⟨hb13, k41, z13⟩
    replace ow2 := ow2.keep k41 (fun x hx hm => sb_b1_oa x hx (List.mem_singleton.1 hm))
    replace hb3 := hb3.keep k41 (fun hm => absurd (List.mem_singleton.1 hm) (Ne.symm ne_b1_b2))
    replace o1 := o1.keep k41 (fun x hx hm => sb_b1_o1 x hx (List.mem_singleton.1 hm))
    replace hb12 := hb12.keep k41 (fun hm => absurd (List.mem_singleton.1 hm) (Ne.symm ne_b1_b5))
    replace hB := hB.new k41 (fun x hx => .inl ((List.mem_singleton.1 hx) ▸ ge_b1))
    clear z13
    refine ow_g (g_as rfl) rfl (ow_nil (tw_retct hfin Try.results10 rfl (run_loadAgg ag38 ty38 ‹_› rfl) rfl ?_))
    have he := dec_e0 (z := 0) hx (not_not_intro (Decidable.of_not_not hc1)) (rdec_b h1 hc2)
    exact ⟨_, by rw [he], fun _ => (by rw [rdec_xT h1 hc3]; exact E12), hB⟩
   ·
    refine tw_skip (tw_seq (tw_region (ow_g (g_ldab (cs' := iv .i64 16 hh9) ag36 ty36 rfl hb10 rfl rfl) rfl ?_)))
    refine ow_g (g_ldab (cs' := iv .i64 16 hh1) ag36 ty36 rfl hb3 rfl rfl) rfl ?_
    refine ow_d (d_call (vs := [_, _]) rfl (rof_any _ _ _ _ E9 E1 _)) rfl ?_
    rintro _ w42 ⟨hh13, rfl, E13, k42⟩
    replace hb1 := hb1.keep0 k42
    replace ow2 := ow2.keep0 k42
    replace hb3 := hb3.keep0 k42
    replace o1 := o1.keep0 k42
    replace hb10 := hb10.keep0 k42
    replace hB := hB.trans k42
    refine ow_d0 (d_stw (vs := iv .i64 64 hh13) ty38 rfl rfl rfl ivF_one hb1 rfl) ?_
    rintro _ w43 ⟨hb14, k43, z14⟩
    replace ow2 := ow2.keep k43 (fun x hx hm => sb_b1_oa x hx (List.mem_singleton.1 hm))
    replace hb3 := hb3.keep k43 (fun hm => absurd (List.mem_singleton.1 hm) (Ne.symm ne_b1_b2))
    replace o1 := o1.keep k43 (fun x hx hm => sb_b1_o1 x hx (List.mem_singleton.1 hm))
    replace hb10 := hb10.keep k43 (fun hm => absurd (List.mem_singleton.1 hm) (Ne.symm ne_b1_b5))
    replace hB := hB.new k43 (fun x hx => .inl ((List.mem_singleton.1 hx) ▸ ge_b1))
    clear z14
    refine ow_g (g_as rfl) rfl (ow_nil (tw_retct hfin Try.results10 rfl (run_loadAgg ag38 ty38 ‹_› rfl) rfl ?_))
    have he := dec_e0 (z := 0) hx (not_not_intro (Decidable.of_not_not hc1)) (rdec_b h1 hc2)
    exact ⟨_, by rw [he], fun _ => (by rw [rdec_xF h1 hc3]; exact E13), hB⟩
end Go.Proofs.Ytkngeapegpehpaa.W
namespace Go.Proofs.Ytkngeapegpehpaa.W
open Go Go.Eng Go.Byt Go.Fld Go.Ed
attribute [local irreducible] encB
theorem neg_odd (r : Fp) (hz : r.val ≠ 0) : (0 - r).val % 2 = 1 ↔ r.val % 2 = 0 := by
  have hr := r.isLt
  have e : (0 - r).val = ((P - r.val) + (0 : Fp).val) % P := by rw [Fin.sub_def]
  have z : (0 : Fp).val = 0 := rfl
  have hP : P % 2 = 1 := by decide +kernel
  have key : ∀ q n : Nat, n ≠ 0 → n < q → q % 2 = 1 → ((q - n) % q % 2 = 1 ↔ n % 2 = 0) := by
    intro q n h1 h2 h3
    rw [Nat.mod_eq_of_lt (show q - n < q by omega)]; omega
  rw [e, z, Nat.add_zero]
  exact key P r.val hz hr hP
theorem root_even {u v : Fp} (h : rootOk u v = true) : ¬ oddF (rootF u v) := by
  unfold rootF
  rw [h, cond_true]
  split
  · rename_i ho
    generalize root1 (u * inv v) = r at *
    unfold oddF at *
    rw [neg_odd r (by omega)]; omega
  · assumption
theorem dec_parts {xs : List UInt8} (h : decE xs = 0) : xs.length = 32 ∧ fpB (decY xs) = decLow xs ∧ rootOk (decU (decY xs)) (decV (decY xs)) = true ∧ (decOdd xs = true → rootF (decU (decY xs)) (decV (decY xs)) ≠ 0) := by
  unfold decE at h
  by_cases h1 : xs.length = 32
  · rw [if_neg (by omega)] at h
    by_cases h2 : fpB (decY xs) = decLow xs
    · rw [if_neg (by simpa using h2)] at h
      cases h3 : (!rootOk (decU (decY xs)) (decV (decY xs)) || (decOdd xs && decide (rootF (decU (decY xs)) (decV (decY xs)) = 0))) with
      | true => rw [h3, if_pos rfl] at h; cases h
      | false =>
        simp only [Bool.or_eq_false_iff, Bool.not_eq_false', Bool.and_eq_false_iff, decide_eq_false_iff_not] at h3
        refine ⟨h1, h2, h3.1, fun ho => ?_⟩
        rcases h3.2 with h4 | h4
        · rw [ho] at h4; cases h4
        · exact h4
    · rw [if_pos h2] at h; cases h
  · rw [if_pos h1] at h; cases h
theorem decX_odd {xs : List UInt8} (h : decE xs = 0) : oddF (decX xs) ↔ decOdd xs = true := by
  obtain ⟨_, _, h3, h4⟩ := dec_parts h
  have he := root_even h3
  unfold decX
  by_cases ho : decOdd xs = true
  · rw [if_pos ho]
    have hz := h4 ho
    generalize rootF (decU (decY xs)) (decV (decY xs)) = r at *
    refine ⟨fun _ => ho, fun _ => ?_⟩
    unfold oddF at *
    have hz2 : r.val ≠ 0 := fun e => hz (Fin.ext e)
    rw [neg_odd r hz2]; omega
  · rw [if_neg ho]
    exact ⟨fun h => absurd h he, fun h => absurd h ho⟩
theorem sign_back {b g : Int} (hb : In b 0 255) (hg : In g 0 255) (h : g % 2 = 1 ↔ b / 128 = 1) : bits .or .u8 (bits .andNot .u8 b 128) (IntKind.u8.wrap (g * 128)) = b := by
  have k1 : ∀ n : Fin 256, IntKind.u8.wrap ((n.val : Int) * 128) = if n.val % 2 = 1 then 128 else 0 := by decide +kernel
  have k2 : ∀ n : Fin 256, bits .or .u8 (bits .andNot .u8 (n.val : Int) 128) (if n.val / 128 = 1 then 128 else 0) = (n.val : Int) := by decide +kernel
  unfold In at hb hg
  have e1 := k1 ⟨g.toNat, by omega⟩
  have e2 := k2 ⟨b.toNat, by omega⟩
  simp only at e1 e2
  rw [show ((g.toNat : Nat) : Int) = g by omega] at e1
  rw [show ((b.toNat : Nat) : Int) = b by omega] at e2
  rw [e1]
  by_cases hc : b / 128 = 1
  · rw [if_pos (by have := h.2 hc; omega)]; rw [if_pos (by omega)] at e2; exact e2
  · rw [if_neg (by intro h1; exact hc (h.1 (by omega)))]; rw [if_neg (by omega)] at e2; exact e2
theorem dec_enc {xs : List UInt8} (h : decE xs = 0) : encB (decX xs) (decY xs) = xs := by
  obtain ⟨h1, h2, _, _⟩ := dec_parts h
  have hp := decX_odd h
  unfold encB
  rw [h2]
  have g31 : gb (decLow xs) 31 = bits .andNot .u8 (gb xs 31) 128 := by
    have hi := bits_in (k := .u8) rfl .andNot (gb xs 31) 128
    have hi : In (bits .andNot .u8 (gb xs 31) 128) 0 255 := hi
    unfold decLow gb
    rw [show (31 : Int).toNat = 31 from rfl, List.getD_eq_getElem?_getD, List.getElem?_set_self (by omega)]
    unfold In at hi
    simp only [Option.getD_some]
    show (((UInt8.ofNat (bits .andNot .u8 (gb xs 31) 128).toNat).toNat : Nat) : Int) = bits .andNot .u8 (gb xs 31) 128
    generalize bits .andNot .u8 (gb xs 31) 128 = q at *
    simp; omega
  have hb : bits .or .u8 (gb (decLow xs) 31) (IntKind.u8.wrap (gb (fpB (decX xs)) 0 * 128)) = gb xs 31 := by
    rw [g31]
    refine sign_back (gb_range _ _) (gb_range _ _) ?_
    have ho := odd0 (decX xs)
    rw [and_mod (k := .u8) (a := 0) (b := 255) 1 (c := 1) (m := 2) (gb_range _ _) rfl rfl rfl rfl rfl rfl] at ho
    rw [ho, hp]
    unfold decOdd
    rw [decide_eq_true_eq]
  rw [hb]
  unfold decLow
  rw [List.set_set]
  have e : UInt8.ofNat (gb xs 31).toNat = xs[31]'(by omega) := by
    unfold gb
    rw [show (31 : Int).toNat = 31 from rfl, List.getD_eq_getElem?_getD, List.getElem?_eq_getElem (by omega)]
    simp
  rw [e, List.set_getElem_self]
def PtZ (p : Nat → Int) (a : Pt) : Prop := PtR p a ∨ (p = (fun _ => 0) ∧ a = zero)
theorem decE_len {xs : List UInt8} (h : xs.length ≠ 32) : decE xs = 1 := by unfold decE; rw [if_pos h]
def dcW (xs : List UInt8) : Pt := if decE xs = 0 then (decX xs, decY xs) else zero
theorem dcW_yes {xs : List UInt8} (h : decE xs = 0) : dcW xs = (decX xs, decY xs) := by unfold dcW; rw [if_pos h]
theorem dcW_no {xs : List UInt8} (h : decE xs ≠ 0) : dcW xs = zero := by unfold dcW; rw [if_neg h]
theorem dcW_enc {xs : List UInt8} (h : decE xs = 0) : encB (dcW xs).1 (dcW xs).2 = xs := by rw [dcW_yes h]; exact dec_enc h
theorem inv_one : inv (1 : Fp) = 1 := inv_unique (by decide)
theorem lent_rd {w : World} {lo : Nat} {e : TypeId} {u : Value} {xs : List UInt8} (o : Own w lo e 1 u (xs.length + 2) (bv (xs ++ [201, 202]))) : RdB w (cut u 0 xs.length 1) xs := by
  have h : RdB w u (xs ++ [201, 202]) := by unfold RdB; rw [List.length_append]; exact o.rd
  have h' := h.cutB (l := 0) (hi := xs.length) (by omega) (by simp)
  simpa using h'
theorem cut_cut {w : World} {n : Nat} {cs : List Value} {u : Value} {m k : Nat} (h : Rd w 1 u n cs) : cut (cut u 0 m 1) 0 k 1 = cut u 0 k 1 := by
  obtain ⟨A, c, rfl, _⟩ := h
  have e : ∀ a : Addr, a.add 0 = a := fun a => Addr.add_zero' a
  cases A with
  | none => simp [cut]
  | some a => simp [cut, e]
theorem mark1 (xs : List UInt8) : gb (xs ++ [201, 202]) (xs.length : Int) = 201 := by unfold gb; simp
theorem mark2 (xs : List UInt8) : gb (xs ++ [201, 202]) ((xs.length : Int) + 1) = 202 := by
  unfold gb
  rw [show ((xs.length : Int) + 1).toNat = xs.length + 1 by omega, List.getD_eq_getElem?_getD, List.getElem?_append_right (by omega)]
  simp
end Go.Proofs.Ytkngeapegpehpaa.W
namespace Go.Proofs.Ytkngeapegpehpaa.W
open Go Go.Eng Go.Byt
set_option linter.unusedVariables false
set_option linter.unusedSimpArgs false
open Go.Fld Go.Ed
attribute [local irreducible] encB
end Go.Proofs.Ytkngeapegpehpaa.W
namespace Go.Proofs.Ytkngeapegpehpaa.W
open Go Go.Eng Go.Byt
set_option linter.unusedVariables false
set_option linter.unusedSimpArgs false
open Go.Fld Go.Ed
attribute [local irreducible] encB
theorem num_k (e : Int) (w : World) : Rets Try.prog 11 [.int .i64 e] w (fun r w' => r = .int .i64 e ∧ Keep [] w w') := (num_any e w).mono fun _ _ ⟨h, e⟩ => ⟨h, e ▸ Keep.refl _ _⟩
set_option maxRecDepth 100000 in
set_option maxHeartbeats 1000000 in
theorem lent_any (v : Value) (xs : List UInt8) (w : World) (hv : RdB w v xs) (hx : xs.length ≤ 140737488351232) : Rets Try.prog 8 [v] w (fun r w' => ∃ u, r = cut u 0 xs.length 1 ∧ Own w' w.heap.size 5 1 u (xs.length + 2) (bv (xs ++ [201, 202])) ∧ Keep [] w w') := by
 have hB : Keep [] w w := Keep.refl _ _
 refine rets_of_tw Try.func8 rfl (by decide) Try.ntmps8 rfl (fun fin _ hfin => ?_)
 refine tw_seq (tw_region (ow_g (g_as rfl) rfl (ow_nil (tw_seq (tw_region ?_)))))
 have gl_oa := hB.size
 refine ow_d (d_bs0 Try.underlying22 ty5 rfl) rfl ?_
 rintro _ wg ⟨g, rfl, hge, hg0, kg⟩
 replace hB := hB.trans kg
 refine ow_g (g_mv rfl) rfl (ow_d (d_app0 (lo := w.heap.size) Try.underlying22 ty5 rfl rfl rfl hg0 (hge ▸ Nat.le_refl _) rfl (hv.keep0 hB) (by omega)) rfl ?_)
 rintro va wa ⟨oa, ka⟩
 replace hB := hB.trans ka
 refine ow_g (g_as rfl) rfl (ow_nil (tw_seq (tw_region (ow_g (g_mv rfl) rfl ?_))))
 have hlo0 : w.heap.size ≤ wa.heap.size := Nat.le_trans kg.size ka.size
 refine ow_d (d_bs (m := 2) (xs := [.const (.int .u8 (201)), .const (.int .u8 (202))]) (vs := [_, _]) Try.underlying22 ty5 (by decide) rfl rfl rfl (by simp only [List.forall_mem_cons]; exact ⟨rfl, rfl, fun v hv => by cases hv⟩) (by decide)) rfl ?_
 rintro v1 w1 ⟨o1, nn1, lb1, k1, z1⟩
 have gl_o1 := hB.size
 replace oa := oa.keep0 k1
 replace hB := hB.trans k1
 have u_o1 := o1.blk
 replace o1 : Own w1 _ _ 1 v1 2 (bv [201, 202]) := o1
 have hlo := Nat.le_trans hlo0 k1.size
 refine ow_d (d_appB Try.underlying22 ty5 rfl oa rfl (show RdB _ _ [201, 202] from o1.rd) (by show xs.length + 2 ≤ _; omega) hlo) rfl ?_
 rintro vb wb ⟨ob, kb, _, _⟩
 replace hB := hB.new kb (fun x hx => .inl (Nat.le_trans gl_oa (oa.blk x hx).1))
 refine ow_g (g_as rfl) rfl (ow_nil (tw_seq (tw_region (ow_g (g_mv rfl) rfl (ow_g (g_mv rfl) rfl (ow_g (g_len Try.underlying22 rfl (by first | assumption | exact Own.rd ‹_› | exact Rd.keep0 ‹_› hB | exact Own.rd (Own.keep0 ‹_› hB))) rfl ?_))))))
 refine ow_g (g_sl Try.underlying22 ty5 rfl ob.rd (.inl ⟨rfl, rfl⟩) (.inr ⟨_, _, rfl, rfl⟩) (by have := ob.rd.vcap; have : [(201 : UInt8), 202].length = 2 := rfl; omega)) rfl ?_
 refine ow_g (g_as rfl) rfl (ow_nil (tw_keep [(2, _)] ⟨rfl, trivial⟩ ?_))
 refine tw_ret1 hfin Try.results8 rfl ?_
 exact ⟨vb, rfl, ob.lo gl_oa, hB⟩
set_option maxRecDepth 100000 in
set_option maxHeartbeats 1000000 in
theorem stays_any (u v : Value) (xs : List UInt8) (lo : Nat) (w : World) (ho : Own w lo 5 1 u (xs.length + 2) (bv (xs ++ [201, 202]))) (hv : RdB w v xs) (hx : xs.length ≤ 140737488351232) : Rets Try.prog 12 [cut u 0 xs.length 1, v] w (fun r w' => r = .bool true ∧ Keep [] w w') := by
 have hB : Keep [] w w := Keep.refl _ _
 obtain ⟨u10, hu10⟩ : ∃ u10, u10 = cut (cut u 0 xs.length 1) (0 : Int).toNat ((xs.length : Int) + 2).toNat 1 := ⟨_, rfl⟩
 have hall : RdB w u (xs ++ [201, 202]) := by unfold RdB; rw [List.length_append]; exact ho.rd
 have h10 : RdB w u10 (xs ++ [201, 202]) := by
  have e : cut (cut u 0 xs.length 1) (0 : Int).toNat ((xs.length : Int) + 2).toNat 1 = cut u 0 (xs.length + 2) 1 := by rw [show (0 : Int).toNat = 0 from rfl, show ((xs.length : Int) + 2).toNat = xs.length + 2 by omega]; exact cut_cut hall
  rw [hu10, e]
  have h := hall.cutB (l := 0) (hi := xs.length + 2) (by omega) (by simp)
  rwa [List.drop_zero, Nat.sub_zero, List.take_of_length_le (by simp)] at h
 have h14 : RdB w (cut u10 0 xs.length 1) xs := by
  have h := h10.cutB (l := 0) (hi := xs.length) (by omega) (by simp)
  rwa [List.drop_zero, Nat.sub_zero, List.take_left' rfl] at h
 have hcap : (0 : Int) ≤ 0 ∧ (0 : Int) ≤ (xs.length : Int) + 2 ∧ (xs.length : Int) + 2 ≤ (vcap (cut u 0 xs.length 1) : Int) := by
  obtain ⟨A, c, e, h1, h2, _⟩ := hall
  subst e
  rw [List.length_append] at h1
  have h1 : xs.length + 2 ≤ c := h1
  refine ⟨Int.le_refl _, by omega, ?_⟩
  show (xs.length : Int) + 2 ≤ ((c - 0 : Nat) : Int)
  omega
 refine rets_of_tw Try.func12 rfl (by decide) Try.ntmps12 rfl (fun fin _ hfin => ?_)
 refine tw_seq (tw_region (ow_g (g_as rfl) rfl (ow_nil (tw_seq (tw_region (ow_g (g_mv rfl) rfl ?_))))))
 refine ow_g (g_mv rfl) rfl (ow_g (g_len Try.underlying22 rfl (by first | assumption | exact Own.rd ‹_› | exact Rd.keep0 ‹_› hB | exact Own.rd (Own.keep0 ‹_› hB))) rfl ?_)
 refine ow_g (g_add rfl rfl (by omega)) rfl ?_
 refine ow_g (v := u10) (by rw [hu10]; exact g_sl Try.underlying22 ty5 rfl (lent_rd ho) (.inl ⟨rfl, rfl⟩) (.inr ⟨_, _, rfl, rfl⟩) hcap) rfl ?_
 refine ow_g (g_as rfl) rfl (ow_nil (tw_seq (tw_stillA mixed (by decide +kernel) (fun w1 k1 => ?_))))
 replace hB := hB.trans k1
 refine sw_g (g_mv rfl) rfl (sw_g (g_mv rfl) rfl (sw_g (g_len Try.underlying22 rfl (by first | assumption | exact Own.rd ‹_› | exact Rd.keep0 ‹_› hB | exact Own.rd (Own.keep0 ‹_› hB))) rfl ?_))
 refine sw_g (g_sl Try.underlying22 ty5 rfl (by first | assumption | exact Own.rd ‹_› | exact Rd.keep0 ‹_› hB | exact Own.rd (Own.keep0 ‹_› hB)) (.inl ⟨rfl, rfl⟩) (.inr ⟨_, _, rfl, rfl⟩) (by have := h10.vcap; simp only [List.length_append, List.length_cons, List.length_nil] at this; omega)) rfl ?_
 refine sw_g (g_str Try.underlying22 Try.underlying5 Try.underlying9 rfl (by first | assumption | exact Own.rd ‹_› | exact Rd.keep0 ‹_› hB | exact Own.rd (Own.keep0 ‹_› hB))) rfl ?_
 refine sw_g (g_mv rfl) rfl (sw_g (g_str Try.underlying22 Try.underlying5 Try.underlying9 rfl (by first | assumption | exact Own.rd ‹_› | exact Rd.keep0 ‹_› hB | exact Own.rd (Own.keep0 ‹_› hB))) rfl ?_)
 refine sw_g (g_eqs rfl rfl) rfl ?_
 refine sw_g (g_mv rfl) rfl (sw_gy (grdT rfl rfl rfl (decide_eq_true rfl)) (g_mv rfl) rfl ?_)
 refine sw_gy (grdT rfl rfl rfl (decide_eq_true rfl)) (g_mv rfl) rfl ?_
 refine sw_gy (grdT rfl rfl rfl (decide_eq_true rfl)) (g_len Try.underlying22 rfl (by first | assumption | exact Own.rd ‹_› | exact Rd.keep0 ‹_› hB | exact Own.rd (Own.keep0 ‹_› hB))) rfl ?_
 refine sw_gy (grdT rfl rfl rfl (decide_eq_true rfl)) (g_ix Try.underlying22 ty5 rfl (by first | assumption | exact Own.rd ‹_› | exact Rd.keep0 ‹_› hB | exact Own.rd (Own.keep0 ‹_› hB)) rfl (by simp only [List.length_append, List.length_cons, List.length_nil]; omega)) rfl ?_
 refine sw_gy (grdT rfl rfl rfl (decide_eq_true rfl)) (g_ldB sc5 rfl (by first | assumption | exact Own.rd ‹_› | exact Rd.keep0 ‹_› hB | exact Own.rd (Own.keep0 ‹_› hB)) (by simp only [List.length_append, List.length_cons, List.length_nil]; omega)) rfl ?_
 refine sw_gy (grdT rfl rfl rfl (decide_eq_true rfl)) (g_eq rfl rfl) rfl ?_
 refine sw_g (g_pickT rfl (decide_eq_true rfl) rfl) rfl ?_
 refine sw_g (g_mv rfl) rfl (sw_gy (grdT rfl rfl rfl (decide_eq_true (mark1 xs))) (g_mv rfl) rfl ?_)
 refine sw_gy (grdT rfl rfl rfl (decide_eq_true (mark1 xs))) (g_mv rfl) rfl ?_
 refine sw_gy (grdT rfl rfl rfl (decide_eq_true (mark1 xs))) (g_len Try.underlying22 rfl (by first | assumption | exact Own.rd ‹_› | exact Rd.keep0 ‹_› hB | exact Own.rd (Own.keep0 ‹_› hB))) rfl ?_
 refine sw_gy (grdT rfl rfl rfl (decide_eq_true (mark1 xs))) (g_add rfl rfl (by omega)) rfl ?_
 refine sw_gy (grdT rfl rfl rfl (decide_eq_true (mark1 xs))) (g_ix Try.underlying22 ty5 rfl (by first | assumption | exact Own.rd ‹_› | exact Rd.keep0 ‹_› hB | exact Own.rd (Own.keep0 ‹_› hB)) rfl (by simp only [List.length_append, List.length_cons, List.length_nil]; omega)) rfl ?_
 refine sw_gy (grdT rfl rfl rfl (decide_eq_true (mark1 xs))) (g_ldB sc5 rfl (by first | assumption | exact Own.rd ‹_› | exact Rd.keep0 ‹_› hB | exact Own.rd (Own.keep0 ‹_› hB)) (by simp only [List.length_append, List.length_cons, List.length_nil]; omega)) rfl ?_
 refine sw_gy (grdT rfl rfl rfl (decide_eq_true (mark1 xs))) (g_eq rfl rfl) rfl ?_
 refine sw_g (g_pickT rfl (decide_eq_true (mark1 xs)) rfl) rfl ?_
 refine sw_g (g_as rfl) rfl (sw_nil ?_)
 refine ow_nil (tw_keep [(4, _)] ⟨rfl, trivial⟩ ?_)
 refine tw_ret1 hfin Try.results12 rfl ?_
 exact ⟨by rw [decide_eq_true (mark2 xs)], hB⟩
end Go.Proofs.Ytkngeapegpehpaa.W
