/- Contracts and laws, part 3 of 6: what each function of the program and of the reference computes, shown once. -/
import Derived.Test.YtkngeapegpehpaaQsb
namespace Go.Proofs.Ytkngeapegpehpaa.W
open Go Go.Eng Go.Byt
set_option linter.unusedVariables false
set_option linter.unusedSimpArgs false
open Go.Fld Go.Ed
set_option maxRecDepth 100000 in
theorem squares_any (f : Nat → Int) (a : Fp) (n : Int) (hf : El f a) (hn : 0 ≤ n ∧ n ≤ 1000) (w : World) : Rets Try.prog 88 [.agg (iv .u64 5 f).toArray, .int .i64 n] w (fun v w' => ∃ h, v = .agg (iv .u64 5 h).toArray ∧ El h (fpow a (2 ^ n.toNat)) ∧ Keep [] w w') := by
 have hB : Keep [] w w := Keep.refl _ _
 refine rets_of_tw Try.func88 rfl (by decide) Try.ntmps88 rfl (fun fin _ hfin => ?_)
 refine tw_seq (tw_region (ow_d (d_box (cs := [.int .u64 (f 0), .int .u64 (f 1), .int .u64 (f 2), .int .u64 (f 3), .int .u64 (f 4)]) rfl rfl) rfl ?_))
 rintro _ w1 ⟨b1, rfl, eb1, hb1, k1, z1⟩
 have ge_b1 : w.heap.size ≤ b1 := by have := hB.size; omega
 replace hB := hB.trans k1
 clear eb1 z1
 refine ow_d (d_alloc ty26) rfl ?_
 rintro _ w2 ⟨b2, rfl, eb2, hb2, k2, z2⟩
 have ge_b2 : w.heap.size ≤ b2 := by have := hB.size; omega
 have ne_b1_b2 : b1 ≠ b2 := by have := hb1.lt; omega
 replace hb1 := hb1.keep0 k2
 replace hB := hB.trans k2
 clear eb2 z2
 refine ow_nil (tw_seq (tw_seq (tw_region (ow_g (g_mv rfl) rfl (ow_g (g_mv rfl) rfl (ow_nil ?_))))))
 refine tw_block (tw_loop (Γ := Int × (Nat → Int)) (fun ⟨i, h⟩ => [(2, .pointer (some ⟨b1, 0, none⟩)), (4, .pointer (some ⟨b2, 0, none⟩)), (5, .int .i64 n), (6, .int .i64 i)]) (fun ⟨i, h⟩ W => 0 ≤ i ∧ i ≤ n ∧ El h (fpow a (2 ^ i.toNat)) ∧ Bk W b1 26 (iv .u64 5 h) ∧ Bk W b2 26 [.int .u64 0, .int .u64 0, .int .u64 0, .int .u64 0, .int .u64 0] ∧ Keep [] w W) (fun ⟨i, h⟩ => (n - i).toNat) ⟨0, f⟩ ⟨rfl, rfl, rfl, rfl, trivial⟩ (⟨by decide, by omega, by simpa [one_fpow] using hf, hb1, hb2, hB⟩) ?_)
 rintro ⟨i, h⟩ w3 ⟨hi0, hi1, hE, hb1, hb2, hB⟩
 refine tw_keep [(2, .pointer (some ⟨b1, 0, none⟩)), (4, .pointer (some ⟨b2, 0, none⟩)), (5, .int .i64 n), (6, .int .i64 i)] ⟨rfl, rfl, rfl, rfl, trivial⟩ ?_
 have zz := hB.size
 refine tw_seq (tw_region (ow_g (g_lt rfl rfl) rfl ?_))
 refine ow_nil (tw_seq (tw_if rfl (fun hc1 => ?_) (fun hc1 => ?_)))
 ·
  refine tw_skip (tw_seq (tw_block (tw_region (ow_g (g_ldab (cs' := [_, _, _, _, _]) ag26 ty26 rfl hb1 rfl rfl) rfl ?_))))
  refine ow_g (g_ldab (cs' := [_, _, _, _, _]) ag26 ty26 rfl hb1 rfl rfl) rfl ?_
  refine ow_d (d_call (vs := [_, _]) rfl (mul_any _ _ _ _ hE hE _)) rfl ?_
  rintro _ w4 ⟨hh1, rfl, E1, k3⟩
  replace hb1 := hb1.keep0 k3
  replace hb2 := hb2.keep0 k3
  replace hB := hB.trans k3
  refine ow_d0 (d_sta ty26 rfl rfl rfl ivF_one hb1 rfl) ?_
  rintro _ w5 ⟨hb3, k4, z3⟩
  replace hb2 := hb2.keep k4 (fun hm => absurd (List.mem_singleton.1 hm) (Ne.symm ne_b1_b2))
  replace hB := hB.new k4 (fun x hx => .inl ((List.mem_singleton.1 hx) ▸ ge_b1))
  clear z3
  replace hb3 : Bk w5 b1 _ [.int .u64 (hh1 0), .int .u64 (hh1 1), .int .u64 (hh1 2), .int .u64 (hh1 3), .int .u64 (hh1 4)] := hb3
  refine ow_nil (tw_b (tw_region (ow_g (g_add rfl rfl (by omega)) rfl ?_)))
  refine ow_g (g_mv rfl) rfl (ow_nil (tw_inv (Γ := Int × (Nat → Int)) ⟨i + 1, hh1⟩ ⟨rfl, rfl, rfl, rfl, trivial⟩ (by (try dsimp only); omega) (⟨by omega, by omega, by rw [show (i + 1).toNat = i.toNat + 1 from by omega, ← fpow_dbl]; exact E1, by assumption, by assumption, hB⟩)))
 ·
  refine tw_exit rfl ?_
  refine tw_seq (tw_region (ow_g (g_ldab (cs' := [_, _, _, _, _]) ag26 ty26 rfl hb1 rfl rfl) rfl ?_))
  refine ow_d0 (d_sta ty26 rfl rfl rfl (by simp only [List.forall_mem_cons]; refine ⟨rfl, rfl, rfl, rfl, rfl, fun v hv => by cases hv⟩) hb2 rfl) ?_
  rintro _ w6 ⟨hb4, k5, z4⟩
  replace hb1 := hb1.keep k5 (fun hm => absurd (List.mem_singleton.1 hm) ne_b1_b2)
  replace hB := hB.new k5 (fun x hx => .inl ((List.mem_singleton.1 hx) ▸ ge_b2))
  clear z4
  replace hb4 : Bk w6 b2 _ [.int .u64 (h 0), .int .u64 (h 1), .int .u64 (h 2), .int .u64 (h 3), .int .u64 (h 4)] := hb4
  refine ow_nil (tw_retc hfin Try.results88 rfl (run_loadAgg ag26 ty26 ‹_› rfl)  ?_)
  obtain rfl : i = n := by omega
  exact ⟨h, rfl, hE, hB⟩
set_option maxRecDepth 100000 in
theorem ones_any (f : Nat → Int) (a : Fp) (hf : El f (fpow a 1)) (w : World) : Rets Try.prog 87 [.agg (iv .u64 5 f).toArray] w (fun v w' => ∃ g h, v = .tuple #[.agg (iv .u64 5 g).toArray, .agg (iv .u64 5 h).toArray] ∧ El g (fpow a 1809251394333065553493296640760748560207343510400633813116524750123642650623) ∧ El h (fpow a 11) ∧ Keep [] w w') := by
 have hB : Keep [] w w := Keep.refl _ _
 refine rets_of_tw Try.func87 rfl (by decide) Try.ntmps87 rfl (fun fin _ hfin => ?_)
 refine tw_seq (tw_region (ow_d (d_box (cs := [.int .u64 (f 0), .int .u64 (f 1), .int .u64 (f 2), .int .u64 (f 3), .int .u64 (f 4)]) rfl rfl) rfl ?_))
 rintro _ w1 ⟨b1, rfl, eb1, hb1, k1, z1⟩
 have ge_b1 : w.heap.size ≤ b1 := by have := hB.size; omega
 replace hB := hB.trans k1
 clear eb1 z1
 refine ow_d (d_alloc ty26) rfl ?_
 rintro _ w2 ⟨b2, rfl, eb2, hb2, k2, z2⟩
 have ge_b2 : w.heap.size ≤ b2 := by have := hB.size; omega
 have ne_b1_b2 : b1 ≠ b2 := by have := hb1.lt; omega
 replace hb1 := hb1.keep0 k2
 replace hB := hB.trans k2
 clear eb2 z2
 refine ow_d (d_alloc ty26) rfl ?_
 rintro _ w3 ⟨b3, rfl, eb3, hb3, k3, z3⟩
 have ge_b3 : w.heap.size ≤ b3 := by have := hB.size; omega
 have ne_b1_b3 : b1 ≠ b3 := by have := hb1.lt; omega
 have ne_b2_b3 : b2 ≠ b3 := by have := hb2.lt; omega
 replace hb1 := hb1.keep0 k3
 replace hb2 := hb2.keep0 k3
 replace hB := hB.trans k3
 clear eb3 z3
 refine ow_nil (tw_seq (tw_region (ow_g (g_ldab (cs' := [_, _, _, _, _]) ag26 ty26 rfl hb1 rfl rfl) rfl ?_)))
 refine ow_d (d_call (vs := [_, _]) rfl (squares_any _ _ _ hf (by decide) _)) rfl ?_
 rintro _ w4 ⟨hh1, rfl, E1, k4⟩
 replace hb1 := hb1.keep0 k4
 replace hb2 := hb2.keep0 k4
 replace hb3 := hb3.keep0 k4
 replace hB := hB.trans k4
 replace E1 : El hh1 (fpow a 2) := el_sq (n := 1) E1 rfl
 refine ow_d (d_alloc ty26) rfl ?_
 rintro _ w5 ⟨b4, rfl, eb4, hb4, k5, z4⟩
 have ge_b4 : w.heap.size ≤ b4 := by have := hB.size; omega
 have ne_b1_b4 : b1 ≠ b4 := by have := hb1.lt; omega
 have ne_b2_b4 : b2 ≠ b4 := by have := hb2.lt; omega
 have ne_b3_b4 : b3 ≠ b4 := by have := hb3.lt; omega
 replace hb1 := hb1.keep0 k5
 replace hb2 := hb2.keep0 k5
 replace hb3 := hb3.keep0 k5
 replace hB := hB.trans k5
 clear eb4 z4
 refine ow_d0 (d_sta ty26 rfl rfl rfl ivF_one hb4 rfl) ?_
 rintro _ w6 ⟨hb5, k6, z5⟩
 replace hb1 := hb1.keep k6 (fun hm => absurd (List.mem_singleton.1 hm) ne_b1_b4)
 replace hb2 := hb2.keep k6 (fun hm => absurd (List.mem_singleton.1 hm) ne_b2_b4)
 replace hb3 := hb3.keep k6 (fun hm => absurd (List.mem_singleton.1 hm) ne_b3_b4)
 replace hB := hB.new k6 (fun x hx => .inl ((List.mem_singleton.1 hx) ▸ ge_b4))
 clear z5
 replace hb5 : Bk w6 b4 _ [.int .u64 (hh1 0), .int .u64 (hh1 1), .int .u64 (hh1 2), .int .u64 (hh1 3), .int .u64 (hh1 4)] := hb5
 refine ow_nil (tw_seq ?_)
 have gs1 := hB.size
 have lt1 := hb1.lt
 have lt2 := hb2.lt
 have lt3 := hb3.lt
 have lt4 := hb5.lt
 refine tw_planA 5 [0, 2, 1, 3] [1, 3] [] [(4, 26, [.int .u64 0, .int .u64 0, .int .u64 0, .int .u64 0, .int .u64 0])] mixed [(4, _), (1, _), (2, _), (3, _)] ⟨rfl, rfl, rfl, rfl, trivial⟩ (by decide +kernel) (by decide) (by decide) ?_ (fun x hx => by cases hx) rfl (fun w7 k7 => ?_)
 · simp only [List.forall_mem_cons]; exact ⟨⟨_, _, _, _, _, _, rfl, ty26⟩, fun q hq => by cases hq⟩
 replace hb1 := hb1.keep0 k7
 replace hb2 := hb2.keep0 k7
 replace hb3 := hb3.keep0 k7
 replace hb5 := hb5.keep0 k7
 replace hB := hB.trans k7
 refine pa_g [(4, _)] rfl rfl ⟨rfl, trivial⟩ rfl (fun W' kk => g_ldab (cs' := [_, _, _, _, _]) ag26 ty26 rfl (Bk.keep0 hb5 kk) rfl rfl) ?_
 refine pa_g [(1, _)] rfl rfl ⟨rfl, trivial⟩ rfl (fun W' kk => g_ldab (cs' := [_, _, _, _, _]) ag26 ty26 rfl (Bk.keep0 hb1 kk) rfl rfl) ?_
 refine pa_d [(15, _)] rfl rfl ⟨rfl, trivial⟩ rfl (fun w9 k9 => ?_)
 replace hb1 := hb1.keep0 k9
 replace hb2 := hb2.keep0 k9
 replace hb3 := hb3.keep0 k9
 replace hb5 := hb5.keep0 k9
 replace hB := hB.trans k9
 refine (d_call (vs := [_, _]) rfl (squares_any _ _ _ E1 (by decide) _)).mono ?_
 rintro _ w8 ⟨hh2, rfl, E2, k8⟩
 refine ⟨k8, (fun x hx => by have hx : x ∈ ([] : List Nat) := hx; cases hx), ?_⟩
 replace hb1 := hb1.keep0 k8
 replace hb2 := hb2.keep0 k8
 replace hb3 := hb3.keep0 k8
 replace hb5 := hb5.keep0 k8
 replace hB := hB.trans k8
 replace E2 : El hh2 (fpow a 8) := el_sq (n := 2) E2 rfl
 refine pa_d [(16, _), (17, _)] rfl rfl ⟨rfl, rfl, trivial⟩ rfl (fun w11 k11 => ?_)
 replace hb1 := hb1.keep0 k11
 replace hb2 := hb2.keep0 k11
 replace hb3 := hb3.keep0 k11
 replace hb5 := hb5.keep0 k11
 replace hB := hB.trans k11
 refine (d_call (vs := [_, _]) rfl (mul_any _ _ _ _ E2 hf _)).mono ?_
 rintro _ w10 ⟨hh3, rfl, E3, k10⟩
 refine ⟨k10, (fun x hx => by have hx : x ∈ ([] : List Nat) := hx; cases hx), ?_⟩
 replace hb1 := hb1.keep0 k10
 replace hb2 := hb2.keep0 k10
 replace hb3 := hb3.keep0 k10
 replace hb5 := hb5.keep0 k10
 replace hB := hB.trans k10
 replace E3 : El hh3 (fpow a 9) := el_mul E3 rfl
 refine pa_nil (fun w12 k12 => ?_)
 replace hb1 := hb1.keep0 k12
 replace hb2 := hb2.keep0 k12
 replace hb3 := hb3.keep0 k12
 replace hb5 := hb5.keep0 k12
 replace hB := hB.trans k12
 intro b5 eb5 lb1 hb6 ds1 sp1
 have ge_b5 : w.heap.size ≤ b5 := Nat.le_trans gs1 eb5
 have ne_b1_b5 : b1 ≠ b5 := Nat.ne_of_lt (Nat.lt_of_lt_of_le lt1 eb5)
 have ne_b2_b5 : b2 ≠ b5 := Nat.ne_of_lt (Nat.lt_of_lt_of_le lt2 eb5)
 have ne_b3_b5 : b3 ≠ b5 := Nat.ne_of_lt (Nat.lt_of_lt_of_le lt3 eb5)
 have ne_b4_b5 : b4 ≠ b5 := Nat.ne_of_lt (Nat.lt_of_lt_of_le lt4 eb5)
 refine fina_nil ?_
 refine ow_d0 (d_sta ty26 rfl rfl rfl ivF_one hb6 rfl) ?_
 rintro _ w13 ⟨hb7, k13, z6⟩
 replace hb1 := hb1.keep k13 (fun hm => absurd (List.mem_singleton.1 hm) ne_b1_b5)
 replace hb2 := hb2.keep k13 (fun hm => absurd (List.mem_singleton.1 hm) ne_b2_b5)
 replace hb3 := hb3.keep k13 (fun hm => absurd (List.mem_singleton.1 hm) ne_b3_b5)
 replace hb5 := hb5.keep k13 (fun hm => absurd (List.mem_singleton.1 hm) ne_b4_b5)
 replace hB := hB.new k13 (fun x hx => .inl ((List.mem_singleton.1 hx) ▸ ge_b5))
 clear z6
 replace hb7 : Bk w13 b5 _ [.int .u64 (hh3 0), .int .u64 (hh3 1), .int .u64 (hh3 2), .int .u64 (hh3 3), .int .u64 (hh3 4)] := hb7
 refine ow_nil (tw_seq (tw_region (ow_g (g_ldab (cs' := [_, _, _, _, _]) ag26 ty26 rfl hb7 rfl rfl) rfl ?_)))
 refine ow_g (g_ldab (cs' := [_, _, _, _, _]) ag26 ty26 rfl hb5 rfl rfl) rfl ?_
 refine ow_d (d_call (vs := [_, _]) rfl (mul_any _ _ _ _ E3 E1 _)) rfl ?_
 rintro _ w14 ⟨hh4, rfl, E4, k14⟩
 replace hb2 := hb2.keep0 k14
 replace hb3 := hb3.keep0 k14
 replace hb5 := hb5.keep0 k14
 replace hb7 := hb7.keep0 k14
 replace hB := hB.trans k14
 replace E4 : El hh4 (fpow a 11) := el_mul E4 rfl
 refine ow_d0 (d_sta ty26 rfl rfl rfl ivF_one hb3 rfl) ?_
 rintro _ w15 ⟨hb8, k15, z7⟩
 replace hb2 := hb2.keep k15 (fun hm => absurd (List.mem_singleton.1 hm) ne_b2_b3)
 replace hb5 := hb5.keep k15 (fun hm => absurd (List.mem_singleton.1 hm) (Ne.symm ne_b3_b4))
 replace hb7 := hb7.keep k15 (fun hm => absurd (List.mem_singleton.1 hm) (Ne.symm ne_b3_b5))
 replace hB := hB.new k15 (fun x hx => .inl ((List.mem_singleton.1 hx) ▸ ge_b3))
 clear z7
 replace hb8 : Bk w15 b3 _ [.int .u64 (hh4 0), .int .u64 (hh4 1), .int .u64 (hh4 2), .int .u64 (hh4 3), .int .u64 (hh4 4)] := hb8
 refine ow_nil (tw_seq ?_)
 have gs2 := hB.size
 have lt5 := hb2.lt
 have lt6 := hb7.lt
 have lt7 := hb8.lt
 refine tw_planA 5 [0, 2, 1, 3] [1, 3] [] [(4, 26, [.int .u64 0, .int .u64 0, .int .u64 0, .int .u64 0, .int .u64 0])] mixed [(3, _), (5, _), (2, _)] ⟨rfl, rfl, rfl, trivial⟩ (by decide +kernel) (by decide) (by decide) ?_ (fun x hx => by cases hx) rfl (fun w16 k16 => ?_)
 · simp only [List.forall_mem_cons]; exact ⟨⟨_, _, _, _, _, _, rfl, ty26⟩, fun q hq => by cases hq⟩
 replace hb2 := hb2.keep0 k16
 replace hb7 := hb7.keep0 k16
 replace hb8 := hb8.keep0 k16
 replace hB := hB.trans k16
 refine pa_g [(3, _)] rfl rfl ⟨rfl, trivial⟩ rfl (fun W' kk => g_ldab (cs' := [_, _, _, _, _]) ag26 ty26 rfl (Bk.keep0 hb8 kk) rfl rfl) ?_
 refine pa_g [(5, _)] rfl rfl ⟨rfl, trivial⟩ rfl (fun W' kk => g_ldab (cs' := [_, _, _, _, _]) ag26 ty26 rfl (Bk.keep0 hb7 kk) rfl rfl) ?_
 refine pa_d [(22, _)] rfl rfl ⟨rfl, trivial⟩ rfl (fun w18 k18 => ?_)
 replace hb2 := hb2.keep0 k18
 replace hb7 := hb7.keep0 k18
 replace hb8 := hb8.keep0 k18
 replace hB := hB.trans k18
 refine (d_call (vs := [_, _]) rfl (squares_any _ _ _ E4 (by decide) _)).mono ?_
 rintro _ w17 ⟨hh5, rfl, E5, k17⟩
 refine ⟨k17, (fun x hx => by have hx : x ∈ ([] : List Nat) := hx; cases hx), ?_⟩
 replace hb2 := hb2.keep0 k17
 replace hb7 := hb7.keep0 k17
 replace hb8 := hb8.keep0 k17
 replace hB := hB.trans k17
 replace E5 : El hh5 (fpow a 22) := el_sq (n := 1) E5 rfl
 refine pa_d [(23, _), (24, _)] rfl rfl ⟨rfl, rfl, trivial⟩ rfl (fun w20 k20 => ?_)
 replace hb2 := hb2.keep0 k20
 replace hb7 := hb7.keep0 k20
 replace hb8 := hb8.keep0 k20
 replace hB := hB.trans k20
 refine (d_call (vs := [_, _]) rfl (mul_any _ _ _ _ E5 E3 _)).mono ?_
 rintro _ w19 ⟨hh6, rfl, E6, k19⟩
 refine ⟨k19, (fun x hx => by have hx : x ∈ ([] : List Nat) := hx; cases hx), ?_⟩
 replace hb2 := hb2.keep0 k19
 replace hb7 := hb7.keep0 k19
 replace hb8 := hb8.keep0 k19
 replace hB := hB.trans k19
 replace E6 : El hh6 (fpow a 31) := el_mul E6 rfl
 refine pa_nil (fun w21 k21 => ?_)
 replace hb2 := hb2.keep0 k21
 replace hb7 := hb7.keep0 k21
 replace hb8 := hb8.keep0 k21
 replace hB := hB.trans k21
 intro b6 eb6 lb2 hb9 ds2 sp2
 have ge_b6 : w.heap.size ≤ b6 := Nat.le_trans gs2 eb6
 have ne_b2_b6 : b2 ≠ b6 := Nat.ne_of_lt (Nat.lt_of_lt_of_le lt5 eb6)
 have ne_b5_b6 : b5 ≠ b6 := Nat.ne_of_lt (Nat.lt_of_lt_of_le lt6 eb6)
 have ne_b3_b6 : b3 ≠ b6 := Nat.ne_of_lt (Nat.lt_of_lt_of_le lt7 eb6)
 refine fina_nil ?_
 refine ow_d0 (d_sta ty26 rfl rfl rfl ivF_one hb9 rfl) ?_
 rintro _ w22 ⟨hb10, k22, z8⟩
 replace hb2 := hb2.keep k22 (fun hm => absurd (List.mem_singleton.1 hm) ne_b2_b6)
 replace hb7 := hb7.keep k22 (fun hm => absurd (List.mem_singleton.1 hm) ne_b5_b6)
 replace hb8 := hb8.keep k22 (fun hm => absurd (List.mem_singleton.1 hm) ne_b3_b6)
 replace hB := hB.new k22 (fun x hx => .inl ((List.mem_singleton.1 hx) ▸ ge_b6))
 clear z8
 replace hb10 : Bk w22 b6 _ [.int .u64 (hh6 0), .int .u64 (hh6 1), .int .u64 (hh6 2), .int .u64 (hh6 3), .int .u64 (hh6 4)] := hb10
 refine ow_nil (tw_seq ?_)
 have gs3 := hB.size
 have lt8 := hb2.lt
 have lt9 := hb8.lt
 have lt10 := hb10.lt
 refine tw_planA 5 [0, 2, 1, 3] [1, 3] [] [(4, 26, [.int .u64 0, .int .u64 0, .int .u64 0, .int .u64 0, .int .u64 0])] mixed [(6, _), (3, _), (2, _)] ⟨rfl, rfl, rfl, trivial⟩ (by decide +kernel) (by decide) (by decide) ?_ (fun x hx => by cases hx) rfl (fun w23 k23 => ?_)
 · simp only [List.forall_mem_cons]; exact ⟨⟨_, _, _, _, _, _, rfl, ty26⟩, fun q hq => by cases hq⟩
 replace hb2 := hb2.keep0 k23
 replace hb8 := hb8.keep0 k23
 replace hb10 := hb10.keep0 k23
 replace hB := hB.trans k23
 refine pa_g [(6, _)] rfl rfl ⟨rfl, trivial⟩ rfl (fun W' kk => g_ldab (cs' := [_, _, _, _, _]) ag26 ty26 rfl (Bk.keep0 hb10 kk) rfl rfl) ?_
 refine pa_g [(6, _)] rfl rfl ⟨rfl, trivial⟩ rfl (fun W' kk => g_ldab (cs' := [_, _, _, _, _]) ag26 ty26 rfl (Bk.keep0 hb10 kk) rfl rfl) ?_
 refine pa_d [(26, _)] rfl rfl ⟨rfl, trivial⟩ rfl (fun w25 k25 => ?_)
 replace hb2 := hb2.keep0 k25
 replace hb8 := hb8.keep0 k25
 replace hb10 := hb10.keep0 k25
 replace hB := hB.trans k25
 refine (d_call (vs := [_, _]) rfl (squares_any _ _ _ E6 (by decide) _)).mono ?_
 rintro _ w24 ⟨hh7, rfl, E7, k24⟩
 refine ⟨k24, (fun x hx => by have hx : x ∈ ([] : List Nat) := hx; cases hx), ?_⟩
 replace hb2 := hb2.keep0 k24
 replace hb8 := hb8.keep0 k24
 replace hb10 := hb10.keep0 k24
 replace hB := hB.trans k24
 replace E7 : El hh7 (fpow a 992) := el_sq (n := 5) E7 rfl
 refine pa_d [(27, _), (28, _)] rfl rfl ⟨rfl, rfl, trivial⟩ rfl (fun w27 k27 => ?_)
 replace hb2 := hb2.keep0 k27
 replace hb8 := hb8.keep0 k27
 replace hb10 := hb10.keep0 k27
 replace hB := hB.trans k27
 refine (d_call (vs := [_, _]) rfl (mul_any _ _ _ _ E7 E6 _)).mono ?_
 rintro _ w26 ⟨hh8, rfl, E8, k26⟩
 refine ⟨k26, (fun x hx => by have hx : x ∈ ([] : List Nat) := hx; cases hx), ?_⟩
 replace hb2 := hb2.keep0 k26
 replace hb8 := hb8.keep0 k26
 replace hb10 := hb10.keep0 k26
 replace hB := hB.trans k26
 replace E8 : El hh8 (fpow a 1023) := el_mul E8 rfl
 refine pa_nil (fun w28 k28 => ?_)
 replace hb2 := hb2.keep0 k28
 replace hb8 := hb8.keep0 k28
 replace hb10 := hb10.keep0 k28
 replace hB := hB.trans k28
 intro b7 eb7 lb3 hb11 ds3 sp3
 have ge_b7 : w.heap.size ≤ b7 := Nat.le_trans gs3 eb7
 have ne_b2_b7 : b2 ≠ b7 := Nat.ne_of_lt (Nat.lt_of_lt_of_le lt8 eb7)
 have ne_b3_b7 : b3 ≠ b7 := Nat.ne_of_lt (Nat.lt_of_lt_of_le lt9 eb7)
 have ne_b6_b7 : b6 ≠ b7 := Nat.ne_of_lt (Nat.lt_of_lt_of_le lt10 eb7)
 refine fina_nil ?_
 refine ow_d0 (d_sta ty26 rfl rfl rfl ivF_one hb11 rfl) ?_
 rintro _ w29 ⟨hb12, k29, z9⟩
 replace hb2 := hb2.keep k29 (fun hm => absurd (List.mem_singleton.1 hm) ne_b2_b7)
 replace hb8 := hb8.keep k29 (fun hm => absurd (List.mem_singleton.1 hm) ne_b3_b7)
 replace hb10 := hb10.keep k29 (fun hm => absurd (List.mem_singleton.1 hm) ne_b6_b7)
 replace hB := hB.new k29 (fun x hx => .inl ((List.mem_singleton.1 hx) ▸ ge_b7))
 clear z9
 replace hb12 : Bk w29 b7 _ [.int .u64 (hh8 0), .int .u64 (hh8 1), .int .u64 (hh8 2), .int .u64 (hh8 3), .int .u64 (hh8 4)] := hb12
 refine ow_nil (tw_seq ?_)
 have gs4 := hB.size
 have lt11 := hb2.lt
 have lt12 := hb8.lt
 have lt13 := hb12.lt
 refine tw_planA 5 [0, 2, 1, 3] [1, 3] [] [(4, 26, [.int .u64 0, .int .u64 0, .int .u64 0, .int .u64 0, .int .u64 0])] mixed [(7, _), (3, _), (2, _)] ⟨rfl, rfl, rfl, trivial⟩ (by decide +kernel) (by decide) (by decide) ?_ (fun x hx => by cases hx) rfl (fun w30 k30 => ?_)
 · simp only [List.forall_mem_cons]; exact ⟨⟨_, _, _, _, _, _, rfl, ty26⟩, fun q hq => by cases hq⟩
 replace hb2 := hb2.keep0 k30
 replace hb8 := hb8.keep0 k30
 replace hb12 := hb12.keep0 k30
 replace hB := hB.trans k30
 refine pa_g [(7, _)] rfl rfl ⟨rfl, trivial⟩ rfl (fun W' kk => g_ldab (cs' := [_, _, _, _, _]) ag26 ty26 rfl (Bk.keep0 hb12 kk) rfl rfl) ?_
 refine pa_g [(7, _)] rfl rfl ⟨rfl, trivial⟩ rfl (fun W' kk => g_ldab (cs' := [_, _, _, _, _]) ag26 ty26 rfl (Bk.keep0 hb12 kk) rfl rfl) ?_
 refine pa_d [(30, _)] rfl rfl ⟨rfl, trivial⟩ rfl (fun w32 k32 => ?_)
 replace hb2 := hb2.keep0 k32
 replace hb8 := hb8.keep0 k32
 replace hb12 := hb12.keep0 k32
 replace hB := hB.trans k32
 refine (d_call (vs := [_, _]) rfl (squares_any _ _ _ E8 (by decide) _)).mono ?_
 rintro _ w31 ⟨hh9, rfl, E9, k31⟩
 refine ⟨k31, (fun x hx => by have hx : x ∈ ([] : List Nat) := hx; cases hx), ?_⟩
 replace hb2 := hb2.keep0 k31
 replace hb8 := hb8.keep0 k31
 replace hb12 := hb12.keep0 k31
 replace hB := hB.trans k31
 replace E9 : El hh9 (fpow a 1047552) := el_sq (n := 10) E9 rfl
 refine pa_d [(31, _), (32, _)] rfl rfl ⟨rfl, rfl, trivial⟩ rfl (fun w34 k34 => ?_)
 replace hb2 := hb2.keep0 k34
 replace hb8 := hb8.keep0 k34
 replace hb12 := hb12.keep0 k34
 replace hB := hB.trans k34
 refine (d_call (vs := [_, _]) rfl (mul_any _ _ _ _ E9 E8 _)).mono ?_
 rintro _ w33 ⟨hh10, rfl, E10, k33⟩
 refine ⟨k33, (fun x hx => by have hx : x ∈ ([] : List Nat) := hx; cases hx), ?_⟩
 replace hb2 := hb2.keep0 k33
 replace hb8 := hb8.keep0 k33
 replace hb12 := hb12.keep0 k33
 replace hB := hB.trans k33
 replace E10 : El hh10 (fpow a 1048575) := el_mul E10 rfl
 refine pa_nil (fun w35 k35 => ?_)
 replace hb2 := hb2.keep0 k35
 replace hb8 := hb8.keep0 k35
 replace hb12 := hb12.keep0 k35
 replace hB := hB.trans k35
 intro b8 eb8 lb4 hb13 ds4 sp4
 have ge_b8 : w.heap.size ≤ b8 := Nat.le_trans gs4 eb8
 have ne_b2_b8 : b2 ≠ b8 := Nat.ne_of_lt (Nat.lt_of_lt_of_le lt11 eb8)
 have ne_b3_b8 : b3 ≠ b8 := Nat.ne_of_lt (Nat.lt_of_lt_of_le lt12 eb8)
 have ne_b7_b8 : b7 ≠ b8 := Nat.ne_of_lt (Nat.lt_of_lt_of_le lt13 eb8)
 refine fina_nil ?_
 refine ow_d0 (d_sta ty26 rfl rfl rfl ivF_one hb13 rfl) ?_
 rintro _ w36 ⟨hb14, k36, z10⟩
 replace hb2 := hb2.keep k36 (fun hm => absurd (List.mem_singleton.1 hm) ne_b2_b8)
 replace hb8 := hb8.keep k36 (fun hm => absurd (List.mem_singleton.1 hm) ne_b3_b8)
 replace hb12 := hb12.keep k36 (fun hm => absurd (List.mem_singleton.1 hm) ne_b7_b8)
 replace hB := hB.new k36 (fun x hx => .inl ((List.mem_singleton.1 hx) ▸ ge_b8))
 clear z10
 replace hb14 : Bk w36 b8 _ [.int .u64 (hh10 0), .int .u64 (hh10 1), .int .u64 (hh10 2), .int .u64 (hh10 3), .int .u64 (hh10 4)] := hb14
 refine ow_nil (tw_seq ?_)
 have gs5 := hB.size
 have lt14 := hb2.lt
 have lt15 := hb8.lt
 have lt16 := hb12.lt
 have lt17 := hb14.lt
 refine tw_planA 5 [0, 2, 1, 3] [1, 3] [] [(4, 26, [.int .u64 0, .int .u64 0, .int .u64 0, .int .u64 0, .int .u64 0])] mixed [(8, _), (7, _), (3, _), (2, _)] ⟨rfl, rfl, rfl, rfl, trivial⟩ (by decide +kernel) (by decide) (by decide) ?_ (fun x hx => by cases hx) rfl (fun w37 k37 => ?_)
 · simp only [List.forall_mem_cons]; exact ⟨⟨_, _, _, _, _, _, rfl, ty26⟩, fun q hq => by cases hq⟩
 replace hb2 := hb2.keep0 k37
 replace hb8 := hb8.keep0 k37
 replace hb12 := hb12.keep0 k37
 replace hb14 := hb14.keep0 k37
 replace hB := hB.trans k37
 refine pa_g [(8, _)] rfl rfl ⟨rfl, trivial⟩ rfl (fun W' kk => g_ldab (cs' := [_, _, _, _, _]) ag26 ty26 rfl (Bk.keep0 hb14 kk) rfl rfl) ?_
 refine pa_g [(8, _)] rfl rfl ⟨rfl, trivial⟩ rfl (fun W' kk => g_ldab (cs' := [_, _, _, _, _]) ag26 ty26 rfl (Bk.keep0 hb14 kk) rfl rfl) ?_
 refine pa_d [(34, _)] rfl rfl ⟨rfl, trivial⟩ rfl (fun w39 k39 => ?_)
 replace hb2 := hb2.keep0 k39
 replace hb8 := hb8.keep0 k39
 replace hb12 := hb12.keep0 k39
 replace hb14 := hb14.keep0 k39
 replace hB := hB.trans k39
 refine (d_call (vs := [_, _]) rfl (squares_any _ _ _ E10 (by decide) _)).mono ?_
 rintro _ w38 ⟨hh11, rfl, E11, k38⟩
 refine ⟨k38, (fun x hx => by have hx : x ∈ ([] : List Nat) := hx; cases hx), ?_⟩
 replace hb2 := hb2.keep0 k38
 replace hb8 := hb8.keep0 k38
 replace hb12 := hb12.keep0 k38
 replace hb14 := hb14.keep0 k38
 replace hB := hB.trans k38
 replace E11 : El hh11 (fpow a 1099510579200) := el_sq (n := 20) E11 rfl
 refine pa_d [(35, _), (36, _)] rfl rfl ⟨rfl, rfl, trivial⟩ rfl (fun w41 k41 => ?_)
 replace hb2 := hb2.keep0 k41
 replace hb8 := hb8.keep0 k41
 replace hb12 := hb12.keep0 k41
 replace hb14 := hb14.keep0 k41
 replace hB := hB.trans k41
 refine (d_call (vs := [_, _]) rfl (mul_any _ _ _ _ E11 E10 _)).mono ?_
 rintro _ w40 ⟨hh12, rfl, E12, k40⟩
 refine ⟨k40, (fun x hx => by have hx : x ∈ ([] : List Nat) := hx; cases hx), ?_⟩
 replace hb2 := hb2.keep0 k40
 replace hb8 := hb8.keep0 k40
 replace hb12 := hb12.keep0 k40
 replace hb14 := hb14.keep0 k40
 replace hB := hB.trans k40
 replace E12 : El hh12 (fpow a 1099511627775) := el_mul E12 rfl
 refine pa_nil (fun w42 k42 => ?_)
 replace hb2 := hb2.keep0 k42
 replace hb8 := hb8.keep0 k42
 replace hb12 := hb12.keep0 k42
 replace hb14 := hb14.keep0 k42
 replace hB := hB.trans k42
 intro b9 eb9 lb5 hb15 ds5 sp5
 have ge_b9 : w.heap.size ≤ b9 := Nat.le_trans gs5 eb9
 have ne_b2_b9 : b2 ≠ b9 := Nat.ne_of_lt (Nat.lt_of_lt_of_le lt14 eb9)
 have ne_b3_b9 : b3 ≠ b9 := Nat.ne_of_lt (Nat.lt_of_lt_of_le lt15 eb9)
 have ne_b7_b9 : b7 ≠ b9 := Nat.ne_of_lt (Nat.lt_of_lt_of_le lt16 eb9)
 have ne_b8_b9 : b8 ≠ b9 := Nat.ne_of_lt (Nat.lt_of_lt_of_le lt17 eb9)
 refine fina_nil ?_
 refine ow_d0 (d_sta ty26 rfl rfl rfl ivF_one hb15 rfl) ?_
 rintro _ w43 ⟨hb16, k43, z11⟩
 replace hb2 := hb2.keep k43 (fun hm => absurd (List.mem_singleton.1 hm) ne_b2_b9)
 replace hb8 := hb8.keep k43 (fun hm => absurd (List.mem_singleton.1 hm) ne_b3_b9)
 replace hb12 := hb12.keep k43 (fun hm => absurd (List.mem_singleton.1 hm) ne_b7_b9)
 replace hb14 := hb14.keep k43 (fun hm => absurd (List.mem_singleton.1 hm) ne_b8_b9)
 replace hB := hB.new k43 (fun x hx => .inl ((List.mem_singleton.1 hx) ▸ ge_b9))
 clear z11
 replace hb16 : Bk w43 b9 _ [.int .u64 (hh12 0), .int .u64 (hh12 1), .int .u64 (hh12 2), .int .u64 (hh12 3), .int .u64 (hh12 4)] := hb16
 refine ow_nil (tw_seq ?_)
 have gs6 := hB.size
 have lt18 := hb2.lt
 have lt19 := hb8.lt
 have lt20 := hb12.lt
 have lt21 := hb16.lt
 refine tw_planA 5 [0, 2, 1, 3] [1, 3] [] [(4, 26, [.int .u64 0, .int .u64 0, .int .u64 0, .int .u64 0, .int .u64 0])] mixed [(9, _), (7, _), (3, _), (2, _)] ⟨rfl, rfl, rfl, rfl, trivial⟩ (by decide +kernel) (by decide) (by decide) ?_ (fun x hx => by cases hx) rfl (fun w44 k44 => ?_)
 · simp only [List.forall_mem_cons]; exact ⟨⟨_, _, _, _, _, _, rfl, ty26⟩, fun q hq => by cases hq⟩
 replace hb2 := hb2.keep0 k44
 replace hb8 := hb8.keep0 k44
 replace hb12 := hb12.keep0 k44
 replace hb16 := hb16.keep0 k44
 replace hB := hB.trans k44
 refine pa_g [(9, _)] rfl rfl ⟨rfl, trivial⟩ rfl (fun W' kk => g_ldab (cs' := [_, _, _, _, _]) ag26 ty26 rfl (Bk.keep0 hb16 kk) rfl rfl) ?_
 refine pa_g [(7, _)] rfl rfl ⟨rfl, trivial⟩ rfl (fun W' kk => g_ldab (cs' := [_, _, _, _, _]) ag26 ty26 rfl (Bk.keep0 hb12 kk) rfl rfl) ?_
 refine pa_d [(38, _)] rfl rfl ⟨rfl, trivial⟩ rfl (fun w46 k46 => ?_)
 replace hb2 := hb2.keep0 k46
 replace hb8 := hb8.keep0 k46
 replace hb12 := hb12.keep0 k46
 replace hb16 := hb16.keep0 k46
 replace hB := hB.trans k46
 refine (d_call (vs := [_, _]) rfl (squares_any _ _ _ E12 (by decide) _)).mono ?_
 rintro _ w45 ⟨hh13, rfl, E13, k45⟩
 refine ⟨k45, (fun x hx => by have hx : x ∈ ([] : List Nat) := hx; cases hx), ?_⟩
 replace hb2 := hb2.keep0 k45
 replace hb8 := hb8.keep0 k45
 replace hb12 := hb12.keep0 k45
 replace hb16 := hb16.keep0 k45
 replace hB := hB.trans k45
 replace E13 : El hh13 (fpow a 1125899906841600) := el_sq (n := 10) E13 rfl
 refine pa_d [(39, _), (40, _)] rfl rfl ⟨rfl, rfl, trivial⟩ rfl (fun w48 k48 => ?_)
 replace hb2 := hb2.keep0 k48
 replace hb8 := hb8.keep0 k48
 replace hb12 := hb12.keep0 k48
 replace hb16 := hb16.keep0 k48
 replace hB := hB.trans k48
 refine (d_call (vs := [_, _]) rfl (mul_any _ _ _ _ E13 E8 _)).mono ?_
 rintro _ w47 ⟨hh14, rfl, E14, k47⟩
 refine ⟨k47, (fun x hx => by have hx : x ∈ ([] : List Nat) := hx; cases hx), ?_⟩
 replace hb2 := hb2.keep0 k47
 replace hb8 := hb8.keep0 k47
 replace hb12 := hb12.keep0 k47
 replace hb16 := hb16.keep0 k47
 replace hB := hB.trans k47
 replace E14 : El hh14 (fpow a 1125899906842623) := el_mul E14 rfl
 refine pa_nil (fun w49 k49 => ?_)
 replace hb2 := hb2.keep0 k49
 replace hb8 := hb8.keep0 k49
 replace hb12 := hb12.keep0 k49
 replace hb16 := hb16.keep0 k49
 replace hB := hB.trans k49
 intro b10 eb10 lb6 hb17 ds6 sp6
 have ge_b10 : w.heap.size ≤ b10 := Nat.le_trans gs6 eb10
 have ne_b2_b10 : b2 ≠ b10 := Nat.ne_of_lt (Nat.lt_of_lt_of_le lt18 eb10)
 have ne_b3_b10 : b3 ≠ b10 := Nat.ne_of_lt (Nat.lt_of_lt_of_le lt19 eb10)
 have ne_b7_b10 : b7 ≠ b10 := Nat.ne_of_lt (Nat.lt_of_lt_of_le lt20 eb10)
 have ne_b9_b10 : b9 ≠ b10 := Nat.ne_of_lt (Nat.lt_of_lt_of_le lt21 eb10)
 refine fina_nil ?_
 refine ow_d0 (d_sta ty26 rfl rfl rfl ivF_one hb17 rfl) ?_
 rintro _ w50 ⟨hb18, k50, z12⟩
 replace hb2 := hb2.keep k50 (fun hm => absurd (List.mem_singleton.1 hm) ne_b2_b10)
 replace hb8 := hb8.keep k50 (fun hm => absurd (List.mem_singleton.1 hm) ne_b3_b10)
 replace hb12 := hb12.keep k50 (fun hm => absurd (List.mem_singleton.1 hm) ne_b7_b10)
 replace hb16 := hb16.keep k50 (fun hm => absurd (List.mem_singleton.1 hm) ne_b9_b10)
 replace hB := hB.new k50 (fun x hx => .inl ((List.mem_singleton.1 hx) ▸ ge_b10))
 clear z12
 replace hb18 : Bk w50 b10 _ [.int .u64 (hh14 0), .int .u64 (hh14 1), .int .u64 (hh14 2), .int .u64 (hh14 3), .int .u64 (hh14 4)] := hb18
 refine ow_nil (tw_seq ?_)
 have gs7 := hB.size
 have lt22 := hb2.lt
 have lt23 := hb8.lt
 have lt24 := hb18.lt
 refine tw_planA 5 [0, 2, 1, 3] [1, 3] [] [(4, 26, [.int .u64 0, .int .u64 0, .int .u64 0, .int .u64 0, .int .u64 0])] mixed [(10, _), (3, _), (2, _)] ⟨rfl, rfl, rfl, trivial⟩ (by decide +kernel) (by decide) (by decide) ?_ (fun x hx => by cases hx) rfl (fun w51 k51 => ?_)
 · simp only [List.forall_mem_cons]; exact ⟨⟨_, _, _, _, _, _, rfl, ty26⟩, fun q hq => by cases hq⟩
 replace hb2 := hb2.keep0 k51
 replace hb8 := hb8.keep0 k51
 replace hb18 := hb18.keep0 k51
 replace hB := hB.trans k51
 refine pa_g [(10, _)] rfl rfl ⟨rfl, trivial⟩ rfl (fun W' kk => g_ldab (cs' := [_, _, _, _, _]) ag26 ty26 rfl (Bk.keep0 hb18 kk) rfl rfl) ?_
 refine pa_g [(10, _)] rfl rfl ⟨rfl, trivial⟩ rfl (fun W' kk => g_ldab (cs' := [_, _, _, _, _]) ag26 ty26 rfl (Bk.keep0 hb18 kk) rfl rfl) ?_
 refine pa_d [(42, _)] rfl rfl ⟨rfl, trivial⟩ rfl (fun w53 k53 => ?_)
 replace hb2 := hb2.keep0 k53
 replace hb8 := hb8.keep0 k53
 replace hb18 := hb18.keep0 k53
 replace hB := hB.trans k53
 refine (d_call (vs := [_, _]) rfl (squares_any _ _ _ E14 (by decide) _)).mono ?_
 rintro _ w52 ⟨hh15, rfl, E15, k52⟩
 refine ⟨k52, (fun x hx => by have hx : x ∈ ([] : List Nat) := hx; cases hx), ?_⟩
 replace hb2 := hb2.keep0 k52
 replace hb8 := hb8.keep0 k52
 replace hb18 := hb18.keep0 k52
 replace hB := hB.trans k52
 replace E15 : El hh15 (fpow a 1267650600228228275596796362752) := el_sq (n := 50) E15 rfl
 refine pa_d [(43, _), (44, _)] rfl rfl ⟨rfl, rfl, trivial⟩ rfl (fun w55 k55 => ?_)
 replace hb2 := hb2.keep0 k55
 replace hb8 := hb8.keep0 k55
 replace hb18 := hb18.keep0 k55
 replace hB := hB.trans k55
 refine (d_call (vs := [_, _]) rfl (mul_any _ _ _ _ E15 E14 _)).mono ?_
 rintro _ w54 ⟨hh16, rfl, E16, k54⟩
 refine ⟨k54, (fun x hx => by have hx : x ∈ ([] : List Nat) := hx; cases hx), ?_⟩
 replace hb2 := hb2.keep0 k54
 replace hb8 := hb8.keep0 k54
 replace hb18 := hb18.keep0 k54
 replace hB := hB.trans k54
 replace E16 : El hh16 (fpow a 1267650600228229401496703205375) := el_mul E16 rfl
 refine pa_nil (fun w56 k56 => ?_)
 replace hb2 := hb2.keep0 k56
 replace hb8 := hb8.keep0 k56
 replace hb18 := hb18.keep0 k56
 replace hB := hB.trans k56
 intro b11 eb11 lb7 hb19 ds7 sp7
 have ge_b11 : w.heap.size ≤ b11 := Nat.le_trans gs7 eb11
 have ne_b2_b11 : b2 ≠ b11 := Nat.ne_of_lt (Nat.lt_of_lt_of_le lt22 eb11)
 have ne_b3_b11 : b3 ≠ b11 := Nat.ne_of_lt (Nat.lt_of_lt_of_le lt23 eb11)
 have ne_b10_b11 : b10 ≠ b11 := Nat.ne_of_lt (Nat.lt_of_lt_of_le lt24 eb11)
 refine fina_nil ?_
 refine ow_d0 (d_sta ty26 rfl rfl rfl ivF_one hb19 rfl) ?_
 rintro _ w57 ⟨hb20, k57, z13⟩
 replace hb2 := hb2.keep k57 (fun hm => absurd (List.mem_singleton.1 hm) ne_b2_b11)
 replace hb8 := hb8.keep k57 (fun hm => absurd (List.mem_singleton.1 hm) ne_b3_b11)
 replace hb18 := hb18.keep k57 (fun hm => absurd (List.mem_singleton.1 hm) ne_b10_b11)
 replace hB := hB.new k57 (fun x hx => .inl ((List.mem_singleton.1 hx) ▸ ge_b11))
 clear z13
 replace hb20 : Bk w57 b11 _ [.int .u64 (hh16 0), .int .u64 (hh16 1), .int .u64 (hh16 2), .int .u64 (hh16 3), .int .u64 (hh16 4)] := hb20
 refine ow_nil (tw_seq ?_)
 have gs8 := hB.size
 have lt25 := hb2.lt
 have lt26 := hb8.lt
 have lt27 := hb18.lt
 have lt28 := hb20.lt
 refine tw_planA 5 [0, 2, 1, 3] [1, 3] [] [(4, 26, [.int .u64 0, .int .u64 0, .int .u64 0, .int .u64 0, .int .u64 0])] mixed [(11, _), (10, _), (3, _), (2, _)] ⟨rfl, rfl, rfl, rfl, trivial⟩ (by decide +kernel) (by decide) (by decide) ?_ (fun x hx => by cases hx) rfl (fun w58 k58 => ?_)
 · simp only [List.forall_mem_cons]; exact ⟨⟨_, _, _, _, _, _, rfl, ty26⟩, fun q hq => by cases hq⟩
 replace hb2 := hb2.keep0 k58
 replace hb8 := hb8.keep0 k58
 replace hb18 := hb18.keep0 k58
 replace hb20 := hb20.keep0 k58
 replace hB := hB.trans k58
 refine pa_g [(11, _)] rfl rfl ⟨rfl, trivial⟩ rfl (fun W' kk => g_ldab (cs' := [_, _, _, _, _]) ag26 ty26 rfl (Bk.keep0 hb20 kk) rfl rfl) ?_
 refine pa_g [(11, _)] rfl rfl ⟨rfl, trivial⟩ rfl (fun W' kk => g_ldab (cs' := [_, _, _, _, _]) ag26 ty26 rfl (Bk.keep0 hb20 kk) rfl rfl) ?_
 refine pa_d [(46, _)] rfl rfl ⟨rfl, trivial⟩ rfl (fun w60 k60 => ?_)
 replace hb2 := hb2.keep0 k60
 replace hb8 := hb8.keep0 k60
 replace hb18 := hb18.keep0 k60
 replace hb20 := hb20.keep0 k60
 replace hB := hB.trans k60
 refine (d_call (vs := [_, _]) rfl (squares_any _ _ _ E16 (by decide) _)).mono ?_
 rintro _ w59 ⟨hh17, rfl, E17, k59⟩
 refine ⟨k59, (fun x hx => by have hx : x ∈ ([] : List Nat) := hx; cases hx), ?_⟩
 replace hb2 := hb2.keep0 k59
 replace hb8 := hb8.keep0 k59
 replace hb18 := hb18.keep0 k59
 replace hb20 := hb20.keep0 k59
 replace hB := hB.trans k59
 replace E17 : El hh17 (fpow a 1606938044258990275541962092339894951921974764381296132096000) := el_sq (n := 100) E17 rfl
 refine pa_d [(47, _), (48, _)] rfl rfl ⟨rfl, rfl, trivial⟩ rfl (fun w62 k62 => ?_)
 replace hb2 := hb2.keep0 k62
 replace hb8 := hb8.keep0 k62
 replace hb18 := hb18.keep0 k62
 replace hb20 := hb20.keep0 k62
 replace hB := hB.trans k62
 refine (d_call (vs := [_, _]) rfl (mul_any _ _ _ _ E17 E16 _)).mono ?_
 rintro _ w61 ⟨hh18, rfl, E18, k61⟩
 refine ⟨k61, (fun x hx => by have hx : x ∈ ([] : List Nat) := hx; cases hx), ?_⟩
 replace hb2 := hb2.keep0 k61
 replace hb8 := hb8.keep0 k61
 replace hb18 := hb18.keep0 k61
 replace hb20 := hb20.keep0 k61
 replace hB := hB.trans k61
 replace E18 : El hh18 (fpow a 1606938044258990275541962092341162602522202993782792835301375) := el_mul E18 rfl
 refine pa_nil (fun w63 k63 => ?_)
 replace hb2 := hb2.keep0 k63
 replace hb8 := hb8.keep0 k63
 replace hb18 := hb18.keep0 k63
 replace hb20 := hb20.keep0 k63
 replace hB := hB.trans k63
 intro b12 eb12 lb8 hb21 ds8 sp8
 have ge_b12 : w.heap.size ≤ b12 := Nat.le_trans gs8 eb12
 have ne_b2_b12 : b2 ≠ b12 := Nat.ne_of_lt (Nat.lt_of_lt_of_le lt25 eb12)
 have ne_b3_b12 : b3 ≠ b12 := Nat.ne_of_lt (Nat.lt_of_lt_of_le lt26 eb12)
 have ne_b10_b12 : b10 ≠ b12 := Nat.ne_of_lt (Nat.lt_of_lt_of_le lt27 eb12)
 have ne_b11_b12 : b11 ≠ b12 := Nat.ne_of_lt (Nat.lt_of_lt_of_le lt28 eb12)
 refine fina_nil ?_
 refine ow_d0 (d_sta ty26 rfl rfl rfl ivF_one hb21 rfl) ?_
 rintro _ w64 ⟨hb22, k64, z14⟩
 replace hb2 := hb2.keep k64 (fun hm => absurd (List.mem_singleton.1 hm) ne_b2_b12)
 replace hb8 := hb8.keep k64 (fun hm => absurd (List.mem_singleton.1 hm) ne_b3_b12)
 replace hb18 := hb18.keep k64 (fun hm => absurd (List.mem_singleton.1 hm) ne_b10_b12)
 replace hb20 := hb20.keep k64 (fun hm => absurd (List.mem_singleton.1 hm) ne_b11_b12)
 replace hB := hB.new k64 (fun x hx => .inl ((List.mem_singleton.1 hx) ▸ ge_b12))
 clear z14
 replace hb22 : Bk w64 b12 _ [.int .u64 (hh18 0), .int .u64 (hh18 1), .int .u64 (hh18 2), .int .u64 (hh18 3), .int .u64 (hh18 4)] := hb22
 refine ow_nil (tw_seq (tw_planA 6 [0, 2, 4, 1, 3, 5] [1, 3, 5] [b2] [] mixed [(12, _), (10, _), (3, _), (2, _)] ⟨rfl, rfl, rfl, rfl, trivial⟩ (by decide +kernel) (by decide) (by decide) ?_ (fun x hx => by simp only [List.mem_cons, List.not_mem_nil, or_false] at hx; have := hb2.lt; omega) rfl (fun w65 k65 => ?_)))
 · intro q hq; cases hq
 replace hb2 := hb2.keep0 k65
 replace hb8 := hb8.keep0 k65
 replace hb18 := hb18.keep0 k65
 replace hb22 := hb22.keep0 k65
 replace hB := hB.trans k65
 refine pa_g [(12, _)] rfl rfl ⟨rfl, trivial⟩ rfl (fun W' kk => g_ldab (cs' := [_, _, _, _, _]) ag26 ty26 rfl (Bk.keep hb22 kk (by simp only [List.mem_cons, List.not_mem_nil, or_false]; first | assumption | (apply Ne.symm; assumption) | omega)) rfl rfl) ?_
 refine pa_g [(10, _)] rfl rfl ⟨rfl, trivial⟩ rfl (fun W' kk => g_ldab (cs' := [_, _, _, _, _]) ag26 ty26 rfl (Bk.keep hb18 kk (by simp only [List.mem_cons, List.not_mem_nil, or_false]; first | assumption | (apply Ne.symm; assumption) | omega)) rfl rfl) ?_
 refine pa_g [(3, _)] rfl rfl ⟨rfl, trivial⟩ rfl (fun W' kk => g_ldab (cs' := [_, _, _, _, _]) ag26 ty26 rfl (Bk.keep hb8 kk (by simp only [List.mem_cons, List.not_mem_nil, or_false]; first | assumption | (apply Ne.symm; assumption) | omega)) rfl rfl) ?_
 refine pa_d [(50, _)] rfl rfl ⟨rfl, trivial⟩ rfl (fun w67 k67 => ?_)
 replace hb2 := hb2.keep0 k67
 replace hb8 := hb8.keep0 k67
 replace hb18 := hb18.keep0 k67
 replace hb22 := hb22.keep0 k67
 replace hB := hB.trans k67
 refine (d_call (vs := [_, _]) rfl (squares_any _ _ _ E18 (by decide) _)).mono ?_
 rintro _ w66 ⟨hh19, rfl, E19, k66⟩
 refine ⟨k66.weak, (fun x hx => by have hx : x ∈ ([] : List Nat) := hx; cases hx), ?_⟩
 replace hb2 := hb2.keep0 k66
 replace hb8 := hb8.keep0 k66
 replace hb18 := hb18.keep0 k66
 replace hb22 := hb22.keep0 k66
 replace hB := hB.trans k66
 replace E19 : El hh19 (fpow a 1809251394333065553493296640760748560207343510400633813116523624223735808000) := el_sq (n := 50) E19 rfl
 refine pa_d [(51, _), (52, _)] rfl rfl ⟨rfl, rfl, trivial⟩ rfl (fun w69 k69 => ?_)
 replace hb2 := hb2.keep0 k69
 replace hb8 := hb8.keep0 k69
 replace hb18 := hb18.keep0 k69
 replace hb22 := hb22.keep0 k69
 replace hB := hB.trans k69
 refine (d_call (vs := [_, _]) rfl (mul_any _ _ _ _ E19 E14 _)).mono ?_
 rintro _ w68 ⟨hh20, rfl, E20, k68⟩
 refine ⟨k68.weak, (fun x hx => by have hx : x ∈ ([] : List Nat) := hx; cases hx), ?_⟩
 replace hb2 := hb2.keep0 k68
 replace hb8 := hb8.keep0 k68
 replace hb18 := hb18.keep0 k68
 replace hb22 := hb22.keep0 k68
 replace hB := hB.trans k68
 replace E20 : El hh20 (fpow a 1809251394333065553493296640760748560207343510400633813116524750123642650623) := el_mul E20 rfl
 refine pa_d0 [(2, _), (53, _)] rfl rfl ⟨rfl, rfl, trivial⟩ rfl (fun w70 k70 => ?_)
 replace hb2 := hb2.keep0 k70
 replace hb8 := hb8.keep0 k70
 replace hb18 := hb18.keep0 k70
 replace hb22 := hb22.keep0 k70
 replace hB := hB.trans k70
 refine (d_sta ty26 rfl rfl rfl ivF_one hb2 rfl).mono ?_
 rintro _ w71 ⟨hb23, k71, z15⟩
 refine ⟨k71, ?_⟩
 replace hb8 := hb8.keep k71 (fun hm => absurd (List.mem_singleton.1 hm) (Ne.symm ne_b2_b3))
 replace hb18 := hb18.keep k71 (fun hm => absurd (List.mem_singleton.1 hm) (Ne.symm ne_b2_b10))
 replace hb22 := hb22.keep k71 (fun hm => absurd (List.mem_singleton.1 hm) (Ne.symm ne_b2_b12))
 replace hB := hB.new k71 (fun x hx => .inl ((List.mem_singleton.1 hx) ▸ ge_b2))
 clear z15
 replace hb23 : Bk w71 b2 _ [.int .u64 (hh20 0), .int .u64 (hh20 1), .int .u64 (hh20 2), .int .u64 (hh20 3), .int .u64 (hh20 4)] := hb23
 refine pa_nil (fun w72 k72 => ?_)
 replace hb8 := hb8.keep0 k72
 replace hb18 := hb18.keep0 k72
 replace hb22 := hb22.keep0 k72
 replace hb23 := hb23.keep0 k72
 replace hB := hB.trans k72
 refine fina_nil ?_
 refine ow_d0 (d_sta ty26 rfl rfl rfl (by simp only [List.forall_mem_cons]; refine ⟨rfl, rfl, rfl, rfl, rfl, fun v hv => by cases hv⟩) hb8 rfl) ?_
 rintro _ w73 ⟨hb24, k73, z16⟩
 replace hb18 := hb18.keep k73 (fun hm => absurd (List.mem_singleton.1 hm) (Ne.symm ne_b3_b10))
 replace hb22 := hb22.keep k73 (fun hm => absurd (List.mem_singleton.1 hm) (Ne.symm ne_b3_b12))
 replace hb23 := hb23.keep k73 (fun hm => absurd (List.mem_singleton.1 hm) ne_b2_b3)
 replace hB := hB.new k73 (fun x hx => .inl ((List.mem_singleton.1 hx) ▸ ge_b3))
 clear z16
 replace hb24 : Bk w73 b3 _ [.int .u64 (hh4 0), .int .u64 (hh4 1), .int .u64 (hh4 2), .int .u64 (hh4 3), .int .u64 (hh4 4)] := hb24
 refine ow_nil (tw_retcc hfin Try.results87 rfl (run_loadAgg ag26 ty26 ‹_› rfl) rfl (run_loadAgg ag26 ty26 ‹_› rfl) ?_)
 exact ⟨hh20, hh4, rfl, E20, E4, hB⟩
set_option maxRecDepth 100000 in
theorem inv_any (f : Nat → Int) (a : Fp) (hf : El f a) (w : World) : Rets Try.prog 77 [.agg (iv .u64 5 f).toArray] w (fun v w' => ∃ h, v = .agg (iv .u64 5 h).toArray ∧ El h (inv a) ∧ Keep [] w w') := by
 have hB : Keep [] w w := Keep.refl _ _
 have hf1 := el_one hf
 refine rets_of_tw Try.func77 rfl (by decide) Try.ntmps77 rfl (fun fin _ hfin => ?_)
 refine tw_seq (tw_region (ow_d (d_box (cs := [.int .u64 (f 0), .int .u64 (f 1), .int .u64 (f 2), .int .u64 (f 3), .int .u64 (f 4)]) rfl rfl) rfl ?_))
 rintro _ w1 ⟨b1, rfl, eb1, hb1, k1, z1⟩
 have ge_b1 : w.heap.size ≤ b1 := by have := hB.size; omega
 replace hB := hB.trans k1
 clear eb1 z1
 refine ow_d (d_alloc ty26) rfl ?_
 rintro _ w2 ⟨b2, rfl, eb2, hb2, k2, z2⟩
 have ge_b2 : w.heap.size ≤ b2 := by have := hB.size; omega
 have ne_b1_b2 : b1 ≠ b2 := by have := hb1.lt; omega
 replace hb1 := hb1.keep0 k2
 replace hB := hB.trans k2
 clear eb2 z2
 refine ow_nil (tw_seq (tw_region (ow_g (g_ldab (cs' := [_, _, _, _, _]) ag26 ty26 rfl hb1 rfl rfl) rfl ?_)))
 refine ow_d (d_call (vs := [_]) rfl (ones_any _ _ hf1 _)) rfl ?_
 rintro _ w3 ⟨gg1, hh1, rfl, E1, G1, k3⟩
 replace hb1 := hb1.keep0 k3
 replace hb2 := hb2.keep0 k3
 replace hB := hB.trans k3
 refine ow_g (g_mv rfl) rfl (ow_g (g_ext (vs := [_, _]) rfl rfl) rfl ?_)
 refine ow_g (g_ext (vs := [_, _]) rfl rfl) rfl ?_
 refine ow_d (d_alloc ty26) rfl ?_
 rintro _ w4 ⟨b3, rfl, eb3, hb3, k4, z3⟩
 have ge_b3 : w.heap.size ≤ b3 := by have := hB.size; omega
 have ne_b1_b3 : b1 ≠ b3 := by have := hb1.lt; omega
 have ne_b2_b3 : b2 ≠ b3 := by have := hb2.lt; omega
 replace hb1 := hb1.keep0 k4
 replace hb2 := hb2.keep0 k4
 replace hB := hB.trans k4
 clear eb3 z3
 refine ow_d (d_alloc ty26) rfl ?_
 rintro _ w5 ⟨b4, rfl, eb4, hb4, k5, z4⟩
 have ge_b4 : w.heap.size ≤ b4 := by have := hB.size; omega
 have ne_b1_b4 : b1 ≠ b4 := by have := hb1.lt; omega
 have ne_b2_b4 : b2 ≠ b4 := by have := hb2.lt; omega
 have ne_b3_b4 : b3 ≠ b4 := by have := hb3.lt; omega
 replace hb1 := hb1.keep0 k5
 replace hb2 := hb2.keep0 k5
 replace hb3 := hb3.keep0 k5
 replace hB := hB.trans k5
 clear eb4 z4
 refine ow_d0 (d_sta ty26 rfl rfl rfl ivF_one hb3 rfl) ?_
 rintro _ w6 ⟨hb5, k6, z5⟩
 replace hb1 := hb1.keep k6 (fun hm => absurd (List.mem_singleton.1 hm) ne_b1_b3)
 replace hb2 := hb2.keep k6 (fun hm => absurd (List.mem_singleton.1 hm) ne_b2_b3)
 replace hb4 := hb4.keep k6 (fun hm => absurd (List.mem_singleton.1 hm) (Ne.symm ne_b3_b4))
 replace hB := hB.new k6 (fun x hx => .inl ((List.mem_singleton.1 hx) ▸ ge_b3))
 clear z5
 replace hb5 : Bk w6 b3 _ [.int .u64 (gg1 0), .int .u64 (gg1 1), .int .u64 (gg1 2), .int .u64 (gg1 3), .int .u64 (gg1 4)] := hb5
 refine ow_d0 (d_sta ty26 rfl rfl rfl ivF_one hb4 rfl) ?_
 rintro _ w7 ⟨hb6, k7, z6⟩
 replace hb1 := hb1.keep k7 (fun hm => absurd (List.mem_singleton.1 hm) ne_b1_b4)
 replace hb2 := hb2.keep k7 (fun hm => absurd (List.mem_singleton.1 hm) ne_b2_b4)
 replace hb5 := hb5.keep k7 (fun hm => absurd (List.mem_singleton.1 hm) ne_b3_b4)
 replace hB := hB.new k7 (fun x hx => .inl ((List.mem_singleton.1 hx) ▸ ge_b4))
 clear z6
 replace hb6 : Bk w7 b4 _ [.int .u64 (hh1 0), .int .u64 (hh1 1), .int .u64 (hh1 2), .int .u64 (hh1 3), .int .u64 (hh1 4)] := hb6
 refine ow_nil (tw_seq (tw_plan 4 [0, 2, 1, 3] [1, 3] [] mixed [(3, _), (4, _), (2, _)] ⟨rfl, rfl, rfl, trivial⟩ (by decide +kernel) rfl (fun w8 k8 => ?_)))
 replace hb2 := hb2.keep0 k8
 replace hb5 := hb5.keep0 k8
 replace hb6 := hb6.keep0 k8
 replace hB := hB.trans k8
 refine pw_g [(3, _)] rfl rfl ⟨rfl, trivial⟩ rfl (fun W' kk => g_ldab (cs' := [_, _, _, _, _]) ag26 ty26 rfl (Bk.keep0 hb5 kk) rfl rfl) ?_
 refine pw_g [(4, _)] rfl rfl ⟨rfl, trivial⟩ rfl (fun W' kk => g_ldab (cs' := [_, _, _, _, _]) ag26 ty26 rfl (Bk.keep0 hb6 kk) rfl rfl) ?_
 refine pw_d [(10, _)] rfl rfl ⟨rfl, trivial⟩ rfl (d_call (vs := [_, _]) rfl (squares_any _ _ _ E1 (by decide) _)) ?_
 rintro _ w9 ⟨hh2, rfl, E2, k9⟩
 refine ⟨k9, ?_⟩
 replace hb2 := hb2.keep0 k9
 replace hb5 := hb5.keep0 k9
 replace hb6 := hb6.keep0 k9
 replace hB := hB.trans k9
 replace E2 : El hh2 (fpow a 57896044618658097711785492504343953926634992332820282019728792003956564819936) := el_sq (n := 5) E2 rfl
 refine pw_d [(11, _), (12, _)] rfl rfl ⟨rfl, rfl, trivial⟩ rfl (d_call (vs := [_, _]) rfl (mul_any _ _ _ _ E2 G1 _)) ?_
 rintro _ w10 ⟨hh3, rfl, E3, k10⟩
 refine ⟨k10, ?_⟩
 replace hb2 := hb2.keep0 k10
 replace hb5 := hb5.keep0 k10
 replace hb6 := hb6.keep0 k10
 replace hB := hB.trans k10
 replace E3 : El hh3 (fpow a 57896044618658097711785492504343953926634992332820282019728792003956564819947) := el_mul E3 rfl
 refine pw_nil ?_
 refine ow_d0 (d_sta ty26 rfl rfl rfl ivF_one hb2 rfl) ?_
 rintro _ w11 ⟨hb7, k11, z7⟩
 replace hb5 := hb5.keep k11 (fun hm => absurd (List.mem_singleton.1 hm) (Ne.symm ne_b2_b3))
 replace hb6 := hb6.keep k11 (fun hm => absurd (List.mem_singleton.1 hm) (Ne.symm ne_b2_b4))
 replace hB := hB.new k11 (fun x hx => .inl ((List.mem_singleton.1 hx) ▸ ge_b2))
 clear z7
 replace hb7 : Bk w11 b2 _ [.int .u64 (hh3 0), .int .u64 (hh3 1), .int .u64 (hh3 2), .int .u64 (hh3 3), .int .u64 (hh3 4)] := hb7
 refine ow_nil (tw_retc hfin Try.results77 rfl (run_loadAgg ag26 ty26 ‹_› rfl)  ?_)
 exact ⟨hh3, rfl, E3, hB⟩
set_option maxRecDepth 100000 in
theorem eighth_any (f : Nat → Int) (a : Fp) (hf : El f a) (w : World) : Rets Try.prog 82 [.agg (iv .u64 5 f).toArray] w (fun v w' => ∃ h, v = .agg (iv .u64 5 h).toArray ∧ El h (fpow a 7237005577332262213973186563042994240829374041602535252466099000494570602494) ∧ Keep [] w w') := by
 have hB : Keep [] w w := Keep.refl _ _
 have hf1 := el_one hf
 refine rets_of_tw Try.func82 rfl (by decide) Try.ntmps82 rfl (fun fin _ hfin => ?_)
 refine tw_seq (tw_region (ow_d (d_box (cs := [.int .u64 (f 0), .int .u64 (f 1), .int .u64 (f 2), .int .u64 (f 3), .int .u64 (f 4)]) rfl rfl) rfl ?_))
 rintro _ w1 ⟨b1, rfl, eb1, hb1, k1, z1⟩
 have ge_b1 : w.heap.size ≤ b1 := by have := hB.size; omega
 replace hB := hB.trans k1
 clear eb1 z1
 refine ow_d (d_alloc ty26) rfl ?_
 rintro _ w2 ⟨b2, rfl, eb2, hb2, k2, z2⟩
 have ge_b2 : w.heap.size ≤ b2 := by have := hB.size; omega
 have ne_b1_b2 : b1 ≠ b2 := by have := hb1.lt; omega
 replace hb1 := hb1.keep0 k2
 replace hB := hB.trans k2
 clear eb2 z2
 refine ow_nil (tw_seq (tw_region (ow_g (g_ldab (cs' := [_, _, _, _, _]) ag26 ty26 rfl hb1 rfl rfl) rfl ?_)))
 refine ow_d (d_call (vs := [_]) rfl (ones_any _ _ hf1 _)) rfl ?_
 rintro _ w3 ⟨gg1, hh1, rfl, E1, G1, k3⟩
 replace hb1 := hb1.keep0 k3
 replace hb2 := hb2.keep0 k3
 replace hB := hB.trans k3
 refine ow_g (g_mv rfl) rfl (ow_g (g_ext (vs := [_, _]) rfl rfl) rfl ?_)
 refine ow_g (g_ext (vs := [_, _]) rfl rfl) rfl ?_
 refine ow_d (d_alloc ty26) rfl ?_
 rintro _ w4 ⟨b3, rfl, eb3, hb3, k4, z3⟩
 have ge_b3 : w.heap.size ≤ b3 := by have := hB.size; omega
 have ne_b1_b3 : b1 ≠ b3 := by have := hb1.lt; omega
 have ne_b2_b3 : b2 ≠ b3 := by have := hb2.lt; omega
 replace hb1 := hb1.keep0 k4
 replace hb2 := hb2.keep0 k4
 replace hB := hB.trans k4
 clear eb3 z3
 refine ow_d (d_alloc ty26) rfl ?_
 rintro _ w5 ⟨b4, rfl, eb4, hb4, k5, z4⟩
 have ge_b4 : w.heap.size ≤ b4 := by have := hB.size; omega
 have ne_b1_b4 : b1 ≠ b4 := by have := hb1.lt; omega
 have ne_b2_b4 : b2 ≠ b4 := by have := hb2.lt; omega
 have ne_b3_b4 : b3 ≠ b4 := by have := hb3.lt; omega
 replace hb1 := hb1.keep0 k5
 replace hb2 := hb2.keep0 k5
 replace hb3 := hb3.keep0 k5
 replace hB := hB.trans k5
 clear eb4 z4
 refine ow_d0 (d_sta ty26 rfl rfl rfl ivF_one hb3 rfl) ?_
 rintro _ w6 ⟨hb5, k6, z5⟩
 replace hb1 := hb1.keep k6 (fun hm => absurd (List.mem_singleton.1 hm) ne_b1_b3)
 replace hb2 := hb2.keep k6 (fun hm => absurd (List.mem_singleton.1 hm) ne_b2_b3)
 replace hb4 := hb4.keep k6 (fun hm => absurd (List.mem_singleton.1 hm) (Ne.symm ne_b3_b4))
 replace hB := hB.new k6 (fun x hx => .inl ((List.mem_singleton.1 hx) ▸ ge_b3))
 clear z5
 replace hb5 : Bk w6 b3 _ [.int .u64 (gg1 0), .int .u64 (gg1 1), .int .u64 (gg1 2), .int .u64 (gg1 3), .int .u64 (gg1 4)] := hb5
 refine ow_d0 (d_sta ty26 rfl rfl rfl ivF_one hb4 rfl) ?_
 rintro _ w7 ⟨hb6, k7, z6⟩
 replace hb1 := hb1.keep k7 (fun hm => absurd (List.mem_singleton.1 hm) ne_b1_b4)
 replace hb2 := hb2.keep k7 (fun hm => absurd (List.mem_singleton.1 hm) ne_b2_b4)
 replace hb5 := hb5.keep k7 (fun hm => absurd (List.mem_singleton.1 hm) ne_b3_b4)
 replace hB := hB.new k7 (fun x hx => .inl ((List.mem_singleton.1 hx) ▸ ge_b4))
 clear z6
 replace hb6 : Bk w7 b4 _ [.int .u64 (hh1 0), .int .u64 (hh1 1), .int .u64 (hh1 2), .int .u64 (hh1 3), .int .u64 (hh1 4)] := hb6
 refine ow_nil (tw_seq (tw_plan 5 [0, 2, 1, 3, 4] [1, 3, 4] [] mixed [(3, _), (1, _), (2, _)] ⟨rfl, rfl, rfl, trivial⟩ (by decide +kernel) rfl (fun w8 k8 => ?_)))
 replace hb1 := hb1.keep0 k8
 replace hb2 := hb2.keep0 k8
 replace hb5 := hb5.keep0 k8
 replace hB := hB.trans k8
 refine pw_g [(3, _)] rfl rfl ⟨rfl, trivial⟩ rfl (fun W' kk => g_ldab (cs' := [_, _, _, _, _]) ag26 ty26 rfl (Bk.keep0 hb5 kk) rfl rfl) ?_
 refine pw_g [(1, _)] rfl rfl ⟨rfl, trivial⟩ rfl (fun W' kk => g_ldab (cs' := [_, _, _, _, _]) ag26 ty26 rfl (Bk.keep0 hb1 kk) rfl rfl) ?_
 refine pw_d [(10, _)] rfl rfl ⟨rfl, trivial⟩ rfl (d_call (vs := [_, _]) rfl (squares_any _ _ _ E1 (by decide) _)) ?_
 rintro _ w9 ⟨hh2, rfl, E2, k9⟩
 refine ⟨k9, ?_⟩
 replace hb1 := hb1.keep0 k9
 replace hb2 := hb2.keep0 k9
 replace hb5 := hb5.keep0 k9
 replace hB := hB.trans k9
 replace E2 : El hh2 (fpow a 3618502788666131106986593281521497120414687020801267626233049500247285301246) := el_sq (n := 1) E2 rfl
 refine pw_d [(11, _), (12, _)] rfl rfl ⟨rfl, rfl, trivial⟩ rfl (d_call (vs := [_, _]) rfl (mul_any _ _ _ _ E2 hf1 _)) ?_
 rintro _ w10 ⟨hh3, rfl, E3, k10⟩
 refine ⟨k10, ?_⟩
 replace hb1 := hb1.keep0 k10
 replace hb2 := hb2.keep0 k10
 replace hb5 := hb5.keep0 k10
 replace hB := hB.trans k10
 replace E3 : El hh3 (fpow a 3618502788666131106986593281521497120414687020801267626233049500247285301247) := el_mul E3 rfl
 refine pw_d [(13, _)] rfl rfl ⟨rfl, trivial⟩ rfl (d_call (vs := [_, _]) rfl (squares_any _ _ _ E3 (by decide) _)) ?_
 rintro _ w11 ⟨hh4, rfl, E4, k11⟩
 refine ⟨k11, ?_⟩
 replace hb1 := hb1.keep0 k11
 replace hb2 := hb2.keep0 k11
 replace hb5 := hb5.keep0 k11
 replace hB := hB.trans k11
 replace E4 : El hh4 (fpow a 7237005577332262213973186563042994240829374041602535252466099000494570602494) := el_sq (n := 1) E4 rfl
 refine pw_nil ?_
 refine ow_d0 (d_sta ty26 rfl rfl rfl ivF_one hb2 rfl) ?_
 rintro _ w12 ⟨hb7, k12, z7⟩
 replace hb1 := hb1.keep k12 (fun hm => absurd (List.mem_singleton.1 hm) ne_b1_b2)
 replace hb5 := hb5.keep k12 (fun hm => absurd (List.mem_singleton.1 hm) (Ne.symm ne_b2_b3))
 replace hB := hB.new k12 (fun x hx => .inl ((List.mem_singleton.1 hx) ▸ ge_b2))
 clear z7
 replace hb7 : Bk w12 b2 _ [.int .u64 (hh4 0), .int .u64 (hh4 1), .int .u64 (hh4 2), .int .u64 (hh4 3), .int .u64 (hh4 4)] := hb7
 refine ow_nil (tw_retc hfin Try.results82 rfl (run_loadAgg ag26 ty26 ‹_› rfl)  ?_)
 exact ⟨hh4, rfl, E4, hB⟩
set_option maxRecDepth 100000 in
theorem minus1_any (w : World) : Rets Try.prog 84 [] w (fun v w' => ∃ h, v = .agg (iv .u64 5 h).toArray ∧ El h (fpow 2 14474011154664524427946373126085988481658748083205070504932198000989141204987) ∧ Keep [] w w') := by
 have hB : Keep [] w w := Keep.refl _ _
 have hf1 : El (vecN [2, 0, 0, 0, 0]) (fpow 2 1) := el_two
 refine rets_of_tw Try.func84 rfl (by decide) Try.ntmps84 rfl (fun fin _ hfin => ?_)
 refine tw_seq (tw_region (ow_d (d_alloc ty26) rfl ?_))
 rintro _ w1 ⟨b1, rfl, eb1, hb1, k1, z1⟩
 have ge_b1 : w.heap.size ≤ b1 := by have := hB.size; omega
 replace hB := hB.trans k1
 clear eb1 z1
 refine ow_nil (tw_seq (tw_region (ow_g (g_blda (idx := [0]) (xs := [.const (.int .u64 (2))]) (vs := [_]) (css := [[.int .u64 2]]) (out := [.int .u64 2, .int .u64 0, .int .u64 0, .int .u64 0, .int .u64 0]) Try.underlying26 ty24 ty26 (arr_pls 5 1) rfl rfl ⟨rfl, trivial⟩ rfl rfl) rfl ?_)))
 refine ow_d (d_alloc ty26) rfl ?_
 rintro _ w2 ⟨b2, rfl, eb2, hb2, k2, z2⟩
 have ge_b2 : w.heap.size ≤ b2 := by have := hB.size; omega
 have ne_b1_b2 : b1 ≠ b2 := by have := hb1.lt; omega
 replace hb1 := hb1.keep0 k2
 replace hB := hB.trans k2
 clear eb2 z2
 refine ow_d0 (d_sta ty26 rfl rfl rfl (by simp only [List.forall_mem_cons]; refine ⟨rfl, rfl, rfl, rfl, rfl, fun v hv => by cases hv⟩) hb2 rfl) ?_
 rintro _ w3 ⟨hb3, k3, z3⟩
 replace hb1 := hb1.keep k3 (fun hm => absurd (List.mem_singleton.1 hm) ne_b1_b2)
 replace hB := hB.new k3 (fun x hx => .inl ((List.mem_singleton.1 hx) ▸ ge_b2))
 clear z3
 replace hb3 : Bk w3 b2 _ [.int .u64 2, .int .u64 0, .int .u64 0, .int .u64 0, .int .u64 0] := hb3
 refine ow_nil (tw_seq (tw_region (ow_g (g_ldab (cs' := [_, _, _, _, _]) ag26 ty26 rfl hb3 rfl rfl) rfl ?_)))
 refine ow_d (d_call (vs := [_]) rfl (ones_any _ _ hf1 _)) rfl ?_
 rintro _ w4 ⟨gg1, hh1, rfl, E1, G1, k4⟩
 replace hb1 := hb1.keep0 k4
 replace hb3 := hb3.keep0 k4
 replace hB := hB.trans k4
 refine ow_g (g_mv rfl) rfl (ow_g (g_ext (vs := [_, _]) rfl rfl) rfl ?_)
 refine ow_g (g_ext (vs := [_, _]) rfl rfl) rfl ?_
 refine ow_d (d_alloc ty26) rfl ?_
 rintro _ w5 ⟨b3, rfl, eb3, hb4, k5, z4⟩
 have ge_b3 : w.heap.size ≤ b3 := by have := hB.size; omega
 have ne_b1_b3 : b1 ≠ b3 := by have := hb1.lt; omega
 have ne_b2_b3 : b2 ≠ b3 := by have := hb3.lt; omega
 replace hb1 := hb1.keep0 k5
 replace hb3 := hb3.keep0 k5
 replace hB := hB.trans k5
 clear eb3 z4
 refine ow_d (d_alloc ty26) rfl ?_
 rintro _ w6 ⟨b4, rfl, eb4, hb5, k6, z5⟩
 have ge_b4 : w.heap.size ≤ b4 := by have := hB.size; omega
 have ne_b1_b4 : b1 ≠ b4 := by have := hb1.lt; omega
 have ne_b2_b4 : b2 ≠ b4 := by have := hb3.lt; omega
 have ne_b3_b4 : b3 ≠ b4 := by have := hb4.lt; omega
 replace hb1 := hb1.keep0 k6
 replace hb3 := hb3.keep0 k6
 replace hb4 := hb4.keep0 k6
 replace hB := hB.trans k6
 clear eb4 z5
 refine ow_d0 (d_sta ty26 rfl rfl rfl ivF_one hb4 rfl) ?_
 rintro _ w7 ⟨hb6, k7, z6⟩
 replace hb1 := hb1.keep k7 (fun hm => absurd (List.mem_singleton.1 hm) ne_b1_b3)
 replace hb3 := hb3.keep k7 (fun hm => absurd (List.mem_singleton.1 hm) ne_b2_b3)
 replace hb5 := hb5.keep k7 (fun hm => absurd (List.mem_singleton.1 hm) (Ne.symm ne_b3_b4))
 replace hB := hB.new k7 (fun x hx => .inl ((List.mem_singleton.1 hx) ▸ ge_b3))
 clear z6
 replace hb6 : Bk w7 b3 _ [.int .u64 (gg1 0), .int .u64 (gg1 1), .int .u64 (gg1 2), .int .u64 (gg1 3), .int .u64 (gg1 4)] := hb6
 refine ow_d0 (d_sta ty26 rfl rfl rfl ivF_one hb5 rfl) ?_
 rintro _ w8 ⟨hb7, k8, z7⟩
 replace hb1 := hb1.keep k8 (fun hm => absurd (List.mem_singleton.1 hm) ne_b1_b4)
 replace hb3 := hb3.keep k8 (fun hm => absurd (List.mem_singleton.1 hm) ne_b2_b4)
 replace hb6 := hb6.keep k8 (fun hm => absurd (List.mem_singleton.1 hm) ne_b3_b4)
 replace hB := hB.new k8 (fun x hx => .inl ((List.mem_singleton.1 hx) ▸ ge_b4))
 clear z7
 replace hb7 : Bk w8 b4 _ [.int .u64 (hh1 0), .int .u64 (hh1 1), .int .u64 (hh1 2), .int .u64 (hh1 3), .int .u64 (hh1 4)] := hb7
 refine ow_nil (tw_seq (tw_plan 8 [0, 2, 3, 4, 1, 5, 6, 7] [1, 5, 6, 7] [] mixed [(2, _), (1, _), (0, _)] ⟨rfl, rfl, rfl, trivial⟩ (by decide +kernel) rfl (fun w9 k9 => ?_)))
 replace hb1 := hb1.keep0 k9
 replace hb3 := hb3.keep0 k9
 replace hb6 := hb6.keep0 k9
 replace hB := hB.trans k9
 refine pw_g [(2, _)] rfl rfl ⟨rfl, trivial⟩ rfl (fun W' kk => g_ldab (cs' := [_, _, _, _, _]) ag26 ty26 rfl (Bk.keep0 hb6 kk) rfl rfl) ?_
 refine pw_g [(1, _)] rfl rfl ⟨rfl, trivial⟩ rfl (fun W' kk => g_ldab (cs' := [_, _, _, _, _]) ag26 ty26 rfl (Bk.keep0 hb3 kk) rfl rfl) ?_
 refine pw_g [(1, _)] rfl rfl ⟨rfl, trivial⟩ rfl (fun W' kk => g_ldab (cs' := [_, _, _, _, _]) ag26 ty26 rfl (Bk.keep0 hb3 kk) rfl rfl) ?_
 refine pw_g [(1, _)] rfl rfl ⟨rfl, trivial⟩ rfl (fun W' kk => g_ldab (cs' := [_, _, _, _, _]) ag26 ty26 rfl (Bk.keep0 hb3 kk) rfl rfl) ?_
 refine pw_d [(10, _)] rfl rfl ⟨rfl, trivial⟩ rfl (d_call (vs := [_, _]) rfl (squares_any _ _ _ E1 (by decide) _)) ?_
 rintro _ w10 ⟨hh2, rfl, E2, k10⟩
 refine ⟨k10, ?_⟩
 replace hb1 := hb1.keep0 k10
 replace hb3 := hb3.keep0 k10
 replace hb6 := hb6.keep0 k10
 replace hB := hB.trans k10
 replace E2 : El hh2 (fpow 2 14474011154664524427946373126085988481658748083205070504932198000989141204984) := el_sq (n := 3) E2 rfl
 refine pw_d [(13, _), (14, _)] rfl rfl ⟨rfl, rfl, trivial⟩ rfl (d_call (vs := [_, _]) rfl (mul_any _ _ _ _ hf1 hf1 _)) ?_
 rintro _ w11 ⟨hh3, rfl, E3, k11⟩
 refine ⟨k11, ?_⟩
 replace hb1 := hb1.keep0 k11
 replace hb3 := hb3.keep0 k11
 replace hb6 := hb6.keep0 k11
 replace hB := hB.trans k11
 replace E3 : El hh3 (fpow 2 2) := el_mul E3 rfl
 refine pw_d [(12, _), (15, _)] rfl rfl ⟨rfl, rfl, trivial⟩ rfl (d_call (vs := [_, _]) rfl (mul_any _ _ _ _ hf1 E3 _)) ?_
 rintro _ w12 ⟨hh4, rfl, E4, k12⟩
 refine ⟨k12, ?_⟩
 replace hb1 := hb1.keep0 k12
 replace hb3 := hb3.keep0 k12
 replace hb6 := hb6.keep0 k12
 replace hB := hB.trans k12
 replace E4 : El hh4 (fpow 2 3) := el_mul E4 rfl
 refine pw_d [(11, _), (16, _)] rfl rfl ⟨rfl, rfl, trivial⟩ rfl (d_call (vs := [_, _]) rfl (mul_any _ _ _ _ E2 E4 _)) ?_
 rintro _ w13 ⟨hh5, rfl, E5, k13⟩
 refine ⟨k13, ?_⟩
 replace hb1 := hb1.keep0 k13
 replace hb3 := hb3.keep0 k13
 replace hb6 := hb6.keep0 k13
 replace hB := hB.trans k13
 replace E5 : El hh5 (fpow 2 14474011154664524427946373126085988481658748083205070504932198000989141204987) := el_mul E5 rfl
 refine pw_nil ?_
 refine ow_d0 (d_sta ty26 rfl rfl rfl ivF_one hb1 rfl) ?_
 rintro _ w14 ⟨hb8, k14, z8⟩
 replace hb3 := hb3.keep k14 (fun hm => absurd (List.mem_singleton.1 hm) (Ne.symm ne_b1_b2))
 replace hb6 := hb6.keep k14 (fun hm => absurd (List.mem_singleton.1 hm) (Ne.symm ne_b1_b3))
 replace hB := hB.new k14 (fun x hx => .inl ((List.mem_singleton.1 hx) ▸ ge_b1))
 clear z8
 replace hb8 : Bk w14 b1 _ [.int .u64 (hh5 0), .int .u64 (hh5 1), .int .u64 (hh5 2), .int .u64 (hh5 3), .int .u64 (hh5 4)] := hb8
 refine ow_nil (tw_keep [(0, _)] ⟨rfl, trivial⟩ ?_)
 refine tw_retc hfin Try.results84 rfl (run_loadAgg ag26 ty26 ‹_› rfl)  ?_
 exact ⟨hh5, rfl, E5, hB⟩
end Go.Proofs.Ytkngeapegpehpaa.W
namespace Go.Proofs.Ytkngeapegpehpaa.W
open Go Go.Eng Go.Byt
set_option linter.unusedVariables false
set_option linter.unusedSimpArgs false
open Go.Fld Go.Ed
set_option maxRecDepth 100000 in
set_option maxHeartbeats 4000000 in
theorem get_any (v : Value) (xs : List UInt8) (w : World) (hv : RdB w v xs) (hx : xs.length = 32) : Rets Try.prog 67 [v] w (fun v w' => ∃ h, v = .agg (iv .u64 5 h).toArray ∧ El h (fp (leI xs)) ∧ Keep [] w w') := by
 have hB : Keep [] w w := Keep.refl _ _
 refine rets_of_tw Try.func67 rfl (by decide) Try.ntmps67 rfl (fun fin _ hfin => ?_)
 refine tw_seq (tw_region (ow_d (d_alloc ty26) rfl ?_))
 rintro _ w1 ⟨b1, rfl, eb1, hb1, k1, z1⟩
 have ge_b1 : w.heap.size ≤ b1 := by have := hB.size; omega
 replace hB := hB.trans k1
 clear eb1 z1
 refine ow_nil (tw_seq (tw_region (ow_d (d_alloc ty104) rfl ?_)))
 rintro _ w2 ⟨b2, rfl, eb2, hb2, k2, z2⟩
 have ge_b2 : w.heap.size ≤ b2 := by have := hB.size; omega
 have ne_b1_b2 : b1 ≠ b2 := by have := hb1.lt; omega
 replace hb1 := hb1.keep0 k2
 replace hB := hB.trans k2
 clear eb2 z2
 refine ow_nil (tw_seq (tw_seq (tw_region (ow_g (g_mv rfl) rfl (ow_nil (tw_block ?_))))))
 refine tw_unroll 32 ?_
 refine tw_seq (tw_region (ow_g (g_lt rfl rfl) rfl ?_))
 refine ow_nil (tw_seq (tw_ifT rfl (by decide) ?_))
 refine tw_skip (tw_seq (tw_block (tw_seq (tw_region (ow_g (g_mv rfl) rfl (ow_g (g_as rfl) rfl ?_))))))
 refine ow_nil (tw_still 14 mixed (by decide +kernel) (fun w3 k3 => ?_))
 replace hb1 := hb1.keep0 k3
 replace hb2 := hb2.keep0 k3
 replace hB := hB.trans k3
 refine sw_g (g_mv rfl) rfl (sw_g (g_fold (j := 0) (g_quo rfl rfl (by decide)) (by decide)) rfl ?_)
 refine sw_g (g_ixa Try.underlying104 ty24 rfl rfl (by decide)) rfl ?_
 refine sw_g (g_ldb sc24 rfl hb2 rfl) rfl ?_
 refine sw_g (g_mv rfl) rfl (sw_g (g_mv rfl) rfl (sw_g (g_ix Try.underlying22 ty5 rfl (by first | assumption | exact Own.rd ‹_› | exact Rd.keep0 ‹_› hB | exact Own.rd (Own.keep0 ‹_› hB)) rfl (by omega)) rfl ?_))
 refine sw_g (g_ldB sc5 rfl (by first | assumption | exact Own.rd ‹_› | exact Rd.keep0 ‹_› hB | exact Own.rd (Own.keep0 ‹_› hB)) (by omega)) rfl ?_
 refine sw_gx (e' := (gb xs (0))) (lo := 0) (hi := 255) (g_cv (by rw [Try.underlying5]; rfl) Try.underlying24 rfl) (wrap_fit (gb_range xs (0)) rfl) ((gb_range xs (0))) rfl (fun z3 h1 r1 => ?_)
 refine sw_g (g_mv rfl) rfl (sw_g (g_fold (j := 0) (g_rem rfl rfl (by decide)) (by decide)) rfl ?_)
 refine sw_g (g_fold (j := 0) (g_mulw rfl rfl) (by decide)) rfl ?_
 refine sw_gx (e' := z3 * 1) (lo := 0) (hi := 255) (g_shlp (m := 1) rfl rfl (by decide) rfl) (wrap_fit (in_mulc r1 (by decide)) rfl) (In.wk (in_mulc r1 (by decide)) rfl) rfl (fun z4 h2 r2 => ?_)
 refine sw_gx (e' := z4) (lo := 0) (hi := 255) (g_or rfl rfl) (zero_or rfl r2 rfl rfl) (r2) rfl (fun z5 h3 r3 => ?_)
 refine sw_nil ?_
 refine ow_g (g_ixa Try.underlying104 ty24 rfl rfl (by decide)) rfl ?_
 refine ow_d0 (d_st ty24 rfl rfl rfl hb2 rfl) ?_
 rintro _ w4 ⟨hb3, k4, z6⟩
 replace hb1 := hb1.keep k4 (fun hm => absurd (List.mem_singleton.1 hm) ne_b1_b2)
 replace hB := hB.new k4 (fun x hx => .inl ((List.mem_singleton.1 hx) ▸ ge_b2))
 clear z6
 replace hb3 : Bk w4 b2 _ [.int .u64 z5, .int .u64 0, .int .u64 0, .int .u64 0] := hb3
 refine ow_nil (tw_keep [(0, _), (2, _), (3, _), (6, _)] ⟨rfl, rfl, rfl, rfl, trivial⟩ ?_)
 refine tw_b (tw_region (ow_g (g_fold (j := 1) (g_addw rfl rfl) (by decide)) rfl ?_))
 refine ow_g (g_mv rfl) rfl (ow_nil (tw_lp (tw_seq (tw_region (ow_g (g_lt rfl rfl) rfl ?_)))))
 refine ow_nil (tw_seq (tw_ifT rfl (by decide) ?_))
 refine tw_skip (tw_seq (tw_block (tw_seq (tw_region (ow_g (g_mv rfl) rfl (ow_g (g_as rfl) rfl ?_))))))
 refine ow_nil (tw_still 14 mixed (by decide +kernel) (fun w5 k5 => ?_))
 replace hb1 := hb1.keep0 k5
 replace hb3 := hb3.keep0 k5
 replace hB := hB.trans k5
 refine sw_g (g_mv rfl) rfl (sw_g (g_fold (j := 0) (g_quo rfl rfl (by decide)) (by decide)) rfl ?_)
 refine sw_g (g_ixa Try.underlying104 ty24 rfl rfl (by decide)) rfl ?_
 refine sw_g (g_ldb sc24 rfl hb3 rfl) rfl ?_
 refine sw_g (g_mv rfl) rfl (sw_g (g_mv rfl) rfl (sw_g (g_ix Try.underlying22 ty5 rfl (by first | assumption | exact Own.rd ‹_› | exact Rd.keep0 ‹_› hB | exact Own.rd (Own.keep0 ‹_› hB)) rfl (by omega)) rfl ?_))
 refine sw_g (g_ldB sc5 rfl (by first | assumption | exact Own.rd ‹_› | exact Rd.keep0 ‹_› hB | exact Own.rd (Own.keep0 ‹_› hB)) (by omega)) rfl ?_
 refine sw_gx (e' := (gb xs (1))) (lo := 0) (hi := 255) (g_cv (by rw [Try.underlying5]; rfl) Try.underlying24 rfl) (wrap_fit (gb_range xs (1)) rfl) ((gb_range xs (1))) rfl (fun z7 h4 r4 => ?_)
 refine sw_g (g_mv rfl) rfl (sw_g (g_fold (j := 1) (g_rem rfl rfl (by decide)) (by decide)) rfl ?_)
 refine sw_g (g_fold (j := 8) (g_mulw rfl rfl) (by decide)) rfl ?_
 refine sw_gx (e' := z7 * 256) (lo := 0) (hi := 65280) (g_shlp (m := 256) rfl rfl (by decide) rfl) (wrap_fit (in_mulc r4 (by decide)) rfl) (In.wk (in_mulc r4 (by decide)) rfl) rfl (fun z8 h5 r5 => ?_)
 refine sw_gx (e' := z5 + z8) (lo := 0) (hi := 65535) (g_or rfl rfl) (or_join' 8 (m := 256) r5 rfl r3 rfl rfl rfl rfl (eq_mod h5 (Int.mul_emod_left _ _)) rfl rfl) (In.wk (in_add r3 r5) rfl) rfl (fun z9 h6 r6 => ?_)
 refine sw_nil ?_
 refine ow_g (g_ixa Try.underlying104 ty24 rfl rfl (by decide)) rfl ?_
 refine ow_d0 (d_st ty24 rfl rfl rfl hb3 rfl) ?_
 rintro _ w6 ⟨hb4, k6, z10⟩
 replace hb1 := hb1.keep k6 (fun hm => absurd (List.mem_singleton.1 hm) ne_b1_b2)
 replace hB := hB.new k6 (fun x hx => .inl ((List.mem_singleton.1 hx) ▸ ge_b2))
 clear z10
 replace hb4 : Bk w6 b2 _ [.int .u64 z9, .int .u64 0, .int .u64 0, .int .u64 0] := hb4
 refine ow_nil (tw_keep [(0, _), (2, _), (3, _), (6, _)] ⟨rfl, rfl, rfl, rfl, trivial⟩ ?_)
 refine tw_b (tw_region (ow_g (g_fold (j := 2) (g_addw rfl rfl) (by decide)) rfl ?_))
 refine ow_g (g_mv rfl) rfl (ow_nil (tw_lp (tw_seq (tw_region (ow_g (g_lt rfl rfl) rfl ?_)))))
 refine ow_nil (tw_seq (tw_ifT rfl (by decide) ?_))
 refine tw_skip (tw_seq (tw_block (tw_seq (tw_region (ow_g (g_mv rfl) rfl (ow_g (g_as rfl) rfl ?_))))))
 refine ow_nil (tw_still 14 mixed (by decide +kernel) (fun w7 k7 => ?_))
 replace hb1 := hb1.keep0 k7
 replace hb4 := hb4.keep0 k7
 replace hB := hB.trans k7
 refine sw_g (g_mv rfl) rfl (sw_g (g_fold (j := 0) (g_quo rfl rfl (by decide)) (by decide)) rfl ?_)
 refine sw_g (g_ixa Try.underlying104 ty24 rfl rfl (by decide)) rfl ?_
 refine sw_g (g_ldb sc24 rfl hb4 rfl) rfl ?_
 refine sw_g (g_mv rfl) rfl (sw_g (g_mv rfl) rfl (sw_g (g_ix Try.underlying22 ty5 rfl (by first | assumption | exact Own.rd ‹_› | exact Rd.keep0 ‹_› hB | exact Own.rd (Own.keep0 ‹_› hB)) rfl (by omega)) rfl ?_))
 refine sw_g (g_ldB sc5 rfl (by first | assumption | exact Own.rd ‹_› | exact Rd.keep0 ‹_› hB | exact Own.rd (Own.keep0 ‹_› hB)) (by omega)) rfl ?_
 refine sw_gx (e' := (gb xs (2))) (lo := 0) (hi := 255) (g_cv (by rw [Try.underlying5]; rfl) Try.underlying24 rfl) (wrap_fit (gb_range xs (2)) rfl) ((gb_range xs (2))) rfl (fun z11 h7 r7 => ?_)
 refine sw_g (g_mv rfl) rfl (sw_g (g_fold (j := 2) (g_rem rfl rfl (by decide)) (by decide)) rfl ?_)
 refine sw_g (g_fold (j := 16) (g_mulw rfl rfl) (by decide)) rfl ?_
 refine sw_gx (e' := z11 * 65536) (lo := 0) (hi := 16711680) (g_shlp (m := 65536) rfl rfl (by decide) rfl) (wrap_fit (in_mulc r7 (by decide)) rfl) (In.wk (in_mulc r7 (by decide)) rfl) rfl (fun z12 h8 r8 => ?_)
 refine sw_gx (e' := z9 + z12) (lo := 0) (hi := 16777215) (g_or rfl rfl) (or_join' 16 (m := 65536) r8 rfl r6 rfl rfl rfl rfl (eq_mod h8 (Int.mul_emod_left _ _)) rfl rfl) (In.wk (in_add r6 r8) rfl) rfl (fun z13 h9 r9 => ?_)
 refine sw_nil ?_
 refine ow_g (g_ixa Try.underlying104 ty24 rfl rfl (by decide)) rfl ?_
 refine ow_d0 (d_st ty24 rfl rfl rfl hb4 rfl) ?_
 rintro _ w8 ⟨hb5, k8, z14⟩
 replace hb1 := hb1.keep k8 (fun hm => absurd (List.mem_singleton.1 hm) ne_b1_b2)
 replace hB := hB.new k8 (fun x hx => .inl ((List.mem_singleton.1 hx) ▸ ge_b2))
 clear z14
 replace hb5 : Bk w8 b2 _ [.int .u64 z13, .int .u64 0, .int .u64 0, .int .u64 0] := hb5
 refine ow_nil (tw_keep [(0, _), (2, _), (3, _), (6, _)] ⟨rfl, rfl, rfl, rfl, trivial⟩ ?_)
 refine tw_b (tw_region (ow_g (g_fold (j := 3) (g_addw rfl rfl) (by decide)) rfl ?_))
 refine ow_g (g_mv rfl) rfl (ow_nil (tw_lp (tw_seq (tw_region (ow_g (g_lt rfl rfl) rfl ?_)))))
 refine ow_nil (tw_seq (tw_ifT rfl (by decide) ?_))
 refine tw_skip (tw_seq (tw_block (tw_seq (tw_region (ow_g (g_mv rfl) rfl (ow_g (g_as rfl) rfl ?_))))))
 refine ow_nil (tw_still 14 mixed (by decide +kernel) (fun w9 k9 => ?_))
 replace hb1 := hb1.keep0 k9
 replace hb5 := hb5.keep0 k9
 replace hB := hB.trans k9
 refine sw_g (g_mv rfl) rfl (sw_g (g_fold (j := 0) (g_quo rfl rfl (by decide)) (by decide)) rfl ?_)
 refine sw_g (g_ixa Try.underlying104 ty24 rfl rfl (by decide)) rfl ?_
 refine sw_g (g_ldb sc24 rfl hb5 rfl) rfl ?_
 refine sw_g (g_mv rfl) rfl (sw_g (g_mv rfl) rfl (sw_g (g_ix Try.underlying22 ty5 rfl (by first | assumption | exact Own.rd ‹_› | exact Rd.keep0 ‹_› hB | exact Own.rd (Own.keep0 ‹_› hB)) rfl (by omega)) rfl ?_))
 refine sw_g (g_ldB sc5 rfl (by first | assumption | exact Own.rd ‹_› | exact Rd.keep0 ‹_› hB | exact Own.rd (Own.keep0 ‹_› hB)) (by omega)) rfl ?_
 refine sw_gx (e' := (gb xs (3))) (lo := 0) (hi := 255) (g_cv (by rw [Try.underlying5]; rfl) Try.underlying24 rfl) (wrap_fit (gb_range xs (3)) rfl) ((gb_range xs (3))) rfl (fun z15 h10 r10 => ?_)
 refine sw_g (g_mv rfl) rfl (sw_g (g_fold (j := 3) (g_rem rfl rfl (by decide)) (by decide)) rfl ?_)
 refine sw_g (g_fold (j := 24) (g_mulw rfl rfl) (by decide)) rfl ?_
 refine sw_gx (e' := z15 * 16777216) (lo := 0) (hi := 4278190080) (g_shlp (m := 16777216) rfl rfl (by decide) rfl) (wrap_fit (in_mulc r10 (by decide)) rfl) (In.wk (in_mulc r10 (by decide)) rfl) rfl (fun z16 h11 r11 => ?_)
 refine sw_gx (e' := z13 + z16) (lo := 0) (hi := 4294967295) (g_or rfl rfl) (or_join' 24 (m := 16777216) r11 rfl r9 rfl rfl rfl rfl (eq_mod h11 (Int.mul_emod_left _ _)) rfl rfl) (In.wk (in_add r9 r11) rfl) rfl (fun z17 h12 r12 => ?_)
 refine sw_nil ?_
 refine ow_g (g_ixa Try.underlying104 ty24 rfl rfl (by decide)) rfl ?_
 refine ow_d0 (d_st ty24 rfl rfl rfl hb5 rfl) ?_
 rintro _ w10 ⟨hb6, k10, z18⟩
 replace hb1 := hb1.keep k10 (fun hm => absurd (List.mem_singleton.1 hm) ne_b1_b2)
 replace hB := hB.new k10 (fun x hx => .inl ((List.mem_singleton.1 hx) ▸ ge_b2))
 clear z18
 replace hb6 : Bk w10 b2 _ [.int .u64 z17, .int .u64 0, .int .u64 0, .int .u64 0] := hb6
 refine ow_nil (tw_keep [(0, _), (2, _), (3, _), (6, _)] ⟨rfl, rfl, rfl, rfl, trivial⟩ ?_)
 refine tw_b (tw_region (ow_g (g_fold (j := 4) (g_addw rfl rfl) (by decide)) rfl ?_))
 refine ow_g (g_mv rfl) rfl (ow_nil (tw_lp (tw_seq (tw_region (ow_g (g_lt rfl rfl) rfl ?_)))))
 refine ow_nil (tw_seq (tw_ifT rfl (by decide) ?_))
 refine tw_skip (tw_seq (tw_block (tw_seq (tw_region (ow_g (g_mv rfl) rfl (ow_g (g_as rfl) rfl ?_))))))
 refine ow_nil (tw_still 14 mixed (by decide +kernel) (fun w11 k11 => ?_))
 replace hb1 := hb1.keep0 k11
 replace hb6 := hb6.keep0 k11
 replace hB := hB.trans k11
 refine sw_g (g_mv rfl) rfl (sw_g (g_fold (j := 0) (g_quo rfl rfl (by decide)) (by decide)) rfl ?_)
 refine sw_g (g_ixa Try.underlying104 ty24 rfl rfl (by decide)) rfl ?_
 refine sw_g (g_ldb sc24 rfl hb6 rfl) rfl ?_
 refine sw_g (g_mv rfl) rfl (sw_g (g_mv rfl) rfl (sw_g (g_ix Try.underlying22 ty5 rfl (by first | assumption | exact Own.rd ‹_› | exact Rd.keep0 ‹_› hB | exact Own.rd (Own.keep0 ‹_› hB)) rfl (by omega)) rfl ?_))
 refine sw_g (g_ldB sc5 rfl (by first | assumption | exact Own.rd ‹_› | exact Rd.keep0 ‹_› hB | exact Own.rd (Own.keep0 ‹_› hB)) (by omega)) rfl ?_
 refine sw_gx (e' := (gb xs (4))) (lo := 0) (hi := 255) (g_cv (by rw [Try.underlying5]; rfl) Try.underlying24 rfl) (wrap_fit (gb_range xs (4)) rfl) ((gb_range xs (4))) rfl (fun z19 h13 r13 => ?_)
 refine sw_g (g_mv rfl) rfl (sw_g (g_fold (j := 4) (g_rem rfl rfl (by decide)) (by decide)) rfl ?_)
 refine sw_g (g_fold (j := 32) (g_mulw rfl rfl) (by decide)) rfl ?_
 refine sw_gx (e' := z19 * 4294967296) (lo := 0) (hi := 1095216660480) (g_shlp (m := 4294967296) rfl rfl (by decide) rfl) (wrap_fit (in_mulc r13 (by decide)) rfl) (In.wk (in_mulc r13 (by decide)) rfl) rfl (fun z20 h14 r14 => ?_)
 refine sw_gx (e' := z17 + z20) (lo := 0) (hi := 1099511627775) (g_or rfl rfl) (or_join' 32 (m := 4294967296) r14 rfl r12 rfl rfl rfl rfl (eq_mod h14 (Int.mul_emod_left _ _)) rfl rfl) (In.wk (in_add r12 r14) rfl) rfl (fun z21 h15 r15 => ?_)
 refine sw_nil ?_
 refine ow_g (g_ixa Try.underlying104 ty24 rfl rfl (by decide)) rfl ?_
 refine ow_d0 (d_st ty24 rfl rfl rfl hb6 rfl) ?_
 rintro _ w12 ⟨hb7, k12, z22⟩
 replace hb1 := hb1.keep k12 (fun hm => absurd (List.mem_singleton.1 hm) ne_b1_b2)
 replace hB := hB.new k12 (fun x hx => .inl ((List.mem_singleton.1 hx) ▸ ge_b2))
 clear z22
 replace hb7 : Bk w12 b2 _ [.int .u64 z21, .int .u64 0, .int .u64 0, .int .u64 0] := hb7
 refine ow_nil (tw_keep [(0, _), (2, _), (3, _), (6, _)] ⟨rfl, rfl, rfl, rfl, trivial⟩ ?_)
 refine tw_b (tw_region (ow_g (g_fold (j := 5) (g_addw rfl rfl) (by decide)) rfl ?_))
 refine ow_g (g_mv rfl) rfl (ow_nil (tw_lp (tw_seq (tw_region (ow_g (g_lt rfl rfl) rfl ?_)))))
 refine ow_nil (tw_seq (tw_ifT rfl (by decide) ?_))
 refine tw_skip (tw_seq (tw_block (tw_seq (tw_region (ow_g (g_mv rfl) rfl (ow_g (g_as rfl) rfl ?_))))))
 refine ow_nil (tw_still 14 mixed (by decide +kernel) (fun w13 k13 => ?_))
 replace hb1 := hb1.keep0 k13
 replace hb7 := hb7.keep0 k13
 replace hB := hB.trans k13
 refine sw_g (g_mv rfl) rfl (sw_g (g_fold (j := 0) (g_quo rfl rfl (by decide)) (by decide)) rfl ?_)
 refine sw_g (g_ixa Try.underlying104 ty24 rfl rfl (by decide)) rfl ?_
 refine sw_g (g_ldb sc24 rfl hb7 rfl) rfl ?_
 refine sw_g (g_mv rfl) rfl (sw_g (g_mv rfl) rfl (sw_g (g_ix Try.underlying22 ty5 rfl (by first | assumption | exact Own.rd ‹_› | exact Rd.keep0 ‹_› hB | exact Own.rd (Own.keep0 ‹_› hB)) rfl (by omega)) rfl ?_))
 refine sw_g (g_ldB sc5 rfl (by first | assumption | exact Own.rd ‹_› | exact Rd.keep0 ‹_› hB | exact Own.rd (Own.keep0 ‹_› hB)) (by omega)) rfl ?_
 refine sw_gx (e' := (gb xs (5))) (lo := 0) (hi := 255) (g_cv (by rw [Try.underlying5]; rfl) Try.underlying24 rfl) (wrap_fit (gb_range xs (5)) rfl) ((gb_range xs (5))) rfl (fun z23 h16 r16 => ?_)
 refine sw_g (g_mv rfl) rfl (sw_g (g_fold (j := 5) (g_rem rfl rfl (by decide)) (by decide)) rfl ?_)
 refine sw_g (g_fold (j := 40) (g_mulw rfl rfl) (by decide)) rfl ?_
 refine sw_gx (e' := z23 * 1099511627776) (lo := 0) (hi := 280375465082880) (g_shlp (m := 1099511627776) rfl rfl (by decide) rfl) (wrap_fit (in_mulc r16 (by decide)) rfl) (In.wk (in_mulc r16 (by decide)) rfl) rfl (fun z24 h17 r17 => ?_)
 refine sw_gx (e' := z21 + z24) (lo := 0) (hi := 281474976710655) (g_or rfl rfl) (or_join' 40 (m := 1099511627776) r17 rfl r15 rfl rfl rfl rfl (eq_mod h17 (Int.mul_emod_left _ _)) rfl rfl) (In.wk (in_add r15 r17) rfl) rfl (fun z25 h18 r18 => ?_)
 refine sw_nil ?_
 refine ow_g (g_ixa Try.underlying104 ty24 rfl rfl (by decide)) rfl ?_
 refine ow_d0 (d_st ty24 rfl rfl rfl hb7 rfl) ?_
 rintro _ w14 ⟨hb8, k14, z26⟩
 replace hb1 := hb1.keep k14 (fun hm => absurd (List.mem_singleton.1 hm) ne_b1_b2)
 replace hB := hB.new k14 (fun x hx => .inl ((List.mem_singleton.1 hx) ▸ ge_b2))
 clear z26
 replace hb8 : Bk w14 b2 _ [.int .u64 z25, .int .u64 0, .int .u64 0, .int .u64 0] := hb8
 refine ow_nil (tw_keep [(0, _), (2, _), (3, _), (6, _)] ⟨rfl, rfl, rfl, rfl, trivial⟩ ?_)
 refine tw_b (tw_region (ow_g (g_fold (j := 6) (g_addw rfl rfl) (by decide)) rfl ?_))
 refine ow_g (g_mv rfl) rfl (ow_nil (tw_lp (tw_seq (tw_region (ow_g (g_lt rfl rfl) rfl ?_)))))
 refine ow_nil (tw_seq (tw_ifT rfl (by decide) ?_))
 refine tw_skip (tw_seq (tw_block (tw_seq (tw_region (ow_g (g_mv rfl) rfl (ow_g (g_as rfl) rfl ?_))))))
 refine ow_nil (tw_still 14 mixed (by decide +kernel) (fun w15 k15 => ?_))
 replace hb1 := hb1.keep0 k15
 replace hb8 := hb8.keep0 k15
 replace hB := hB.trans k15
 refine sw_g (g_mv rfl) rfl (sw_g (g_fold (j := 0) (g_quo rfl rfl (by decide)) (by decide)) rfl ?_)
 refine sw_g (g_ixa Try.underlying104 ty24 rfl rfl (by decide)) rfl ?_
 refine sw_g (g_ldb sc24 rfl hb8 rfl) rfl ?_
 refine sw_g (g_mv rfl) rfl (sw_g (g_mv rfl) rfl (sw_g (g_ix Try.underlying22 ty5 rfl (by first | assumption | exact Own.rd ‹_› | exact Rd.keep0 ‹_› hB | exact Own.rd (Own.keep0 ‹_› hB)) rfl (by omega)) rfl ?_))
 refine sw_g (g_ldB sc5 rfl (by first | assumption | exact Own.rd ‹_› | exact Rd.keep0 ‹_› hB | exact Own.rd (Own.keep0 ‹_› hB)) (by omega)) rfl ?_
 refine sw_gx (e' := (gb xs (6))) (lo := 0) (hi := 255) (g_cv (by rw [Try.underlying5]; rfl) Try.underlying24 rfl) (wrap_fit (gb_range xs (6)) rfl) ((gb_range xs (6))) rfl (fun z27 h19 r19 => ?_)
 refine sw_g (g_mv rfl) rfl (sw_g (g_fold (j := 6) (g_rem rfl rfl (by decide)) (by decide)) rfl ?_)
 refine sw_g (g_fold (j := 48) (g_mulw rfl rfl) (by decide)) rfl ?_
 refine sw_gx (e' := z27 * 281474976710656) (lo := 0) (hi := 71776119061217280) (g_shlp (m := 281474976710656) rfl rfl (by decide) rfl) (wrap_fit (in_mulc r19 (by decide)) rfl) (In.wk (in_mulc r19 (by decide)) rfl) rfl (fun z28 h20 r20 => ?_)
 refine sw_gx (e' := z25 + z28) (lo := 0) (hi := 72057594037927935) (g_or rfl rfl) (or_join' 48 (m := 281474976710656) r20 rfl r18 rfl rfl rfl rfl (eq_mod h20 (Int.mul_emod_left _ _)) rfl rfl) (In.wk (in_add r18 r20) rfl) rfl (fun z29 h21 r21 => ?_)
 refine sw_nil ?_
 refine ow_g (g_ixa Try.underlying104 ty24 rfl rfl (by decide)) rfl ?_
 refine ow_d0 (d_st ty24 rfl rfl rfl hb8 rfl) ?_
 rintro _ w16 ⟨hb9, k16, z30⟩
 replace hb1 := hb1.keep k16 (fun hm => absurd (List.mem_singleton.1 hm) ne_b1_b2)
 replace hB := hB.new k16 (fun x hx => .inl ((List.mem_singleton.1 hx) ▸ ge_b2))
 clear z30
 replace hb9 : Bk w16 b2 _ [.int .u64 z29, .int .u64 0, .int .u64 0, .int .u64 0] := hb9
 refine ow_nil (tw_keep [(0, _), (2, _), (3, _), (6, _)] ⟨rfl, rfl, rfl, rfl, trivial⟩ ?_)
 refine tw_b (tw_region (ow_g (g_fold (j := 7) (g_addw rfl rfl) (by decide)) rfl ?_))
 refine ow_g (g_mv rfl) rfl (ow_nil (tw_lp (tw_seq (tw_region (ow_g (g_lt rfl rfl) rfl ?_)))))
 refine ow_nil (tw_seq (tw_ifT rfl (by decide) ?_))
 refine tw_skip (tw_seq (tw_block (tw_seq (tw_region (ow_g (g_mv rfl) rfl (ow_g (g_as rfl) rfl ?_))))))
 refine ow_nil (tw_still 14 mixed (by decide +kernel) (fun w17 k17 => ?_))
 replace hb1 := hb1.keep0 k17
 replace hb9 := hb9.keep0 k17
 replace hB := hB.trans k17
 refine sw_g (g_mv rfl) rfl (sw_g (g_fold (j := 0) (g_quo rfl rfl (by decide)) (by decide)) rfl ?_)
 refine sw_g (g_ixa Try.underlying104 ty24 rfl rfl (by decide)) rfl ?_
 refine sw_g (g_ldb sc24 rfl hb9 rfl) rfl ?_
 refine sw_g (g_mv rfl) rfl (sw_g (g_mv rfl) rfl (sw_g (g_ix Try.underlying22 ty5 rfl (by first | assumption | exact Own.rd ‹_› | exact Rd.keep0 ‹_› hB | exact Own.rd (Own.keep0 ‹_› hB)) rfl (by omega)) rfl ?_))
 refine sw_g (g_ldB sc5 rfl (by first | assumption | exact Own.rd ‹_› | exact Rd.keep0 ‹_› hB | exact Own.rd (Own.keep0 ‹_› hB)) (by omega)) rfl ?_
 refine sw_gx (e' := (gb xs (7))) (lo := 0) (hi := 255) (g_cv (by rw [Try.underlying5]; rfl) Try.underlying24 rfl) (wrap_fit (gb_range xs (7)) rfl) ((gb_range xs (7))) rfl (fun z31 h22 r22 => ?_)
 refine sw_g (g_mv rfl) rfl (sw_g (g_fold (j := 7) (g_rem rfl rfl (by decide)) (by decide)) rfl ?_)
 refine sw_g (g_fold (j := 56) (g_mulw rfl rfl) (by decide)) rfl ?_
 refine sw_gx (e' := z31 * 72057594037927936) (lo := 0) (hi := 18374686479671623680) (g_shlp (m := 72057594037927936) rfl rfl (by decide) rfl) (wrap_fit (in_mulc r22 (by decide)) rfl) (In.wk (in_mulc r22 (by decide)) rfl) rfl (fun z32 h23 r23 => ?_)
 refine sw_gx (e' := z29 + z32) (lo := 0) (hi := 18446744073709551615) (g_or rfl rfl) (or_join' 56 (m := 72057594037927936) r23 rfl r21 rfl rfl rfl rfl (eq_mod h23 (Int.mul_emod_left _ _)) rfl rfl) (In.wk (in_add r21 r23) rfl) rfl (fun z33 h24 r24 => ?_)
 refine sw_nil ?_
 refine ow_g (g_ixa Try.underlying104 ty24 rfl rfl (by decide)) rfl ?_
 refine ow_d0 (d_st ty24 rfl rfl rfl hb9 rfl) ?_
 rintro _ w18 ⟨hb10, k18, z34⟩
 replace hb1 := hb1.keep k18 (fun hm => absurd (List.mem_singleton.1 hm) ne_b1_b2)
 replace hB := hB.new k18 (fun x hx => .inl ((List.mem_singleton.1 hx) ▸ ge_b2))
 clear z34
 replace hb10 : Bk w18 b2 _ [.int .u64 z33, .int .u64 0, .int .u64 0, .int .u64 0] := hb10
 refine ow_nil (tw_keep [(0, _), (2, _), (3, _), (6, _)] ⟨rfl, rfl, rfl, rfl, trivial⟩ ?_)
 refine tw_b (tw_region (ow_g (g_fold (j := 8) (g_addw rfl rfl) (by decide)) rfl ?_))
 refine ow_g (g_mv rfl) rfl (ow_nil (tw_lp (tw_seq (tw_region (ow_g (g_lt rfl rfl) rfl ?_)))))
 refine ow_nil (tw_seq (tw_ifT rfl (by decide) ?_))
 refine tw_skip (tw_seq (tw_block (tw_seq (tw_region (ow_g (g_mv rfl) rfl (ow_g (g_as rfl) rfl ?_))))))
 refine ow_nil (tw_still 14 mixed (by decide +kernel) (fun w19 k19 => ?_))
 replace hb1 := hb1.keep0 k19
 replace hb10 := hb10.keep0 k19
 replace hB := hB.trans k19
 refine sw_g (g_mv rfl) rfl (sw_g (g_fold (j := 1) (g_quo rfl rfl (by decide)) (by decide)) rfl ?_)
 refine sw_g (g_ixa Try.underlying104 ty24 rfl rfl (by decide)) rfl ?_
 refine sw_g (g_ldb sc24 rfl hb10 rfl) rfl ?_
 refine sw_g (g_mv rfl) rfl (sw_g (g_mv rfl) rfl (sw_g (g_ix Try.underlying22 ty5 rfl (by first | assumption | exact Own.rd ‹_› | exact Rd.keep0 ‹_› hB | exact Own.rd (Own.keep0 ‹_› hB)) rfl (by omega)) rfl ?_))
 refine sw_g (g_ldB sc5 rfl (by first | assumption | exact Own.rd ‹_› | exact Rd.keep0 ‹_› hB | exact Own.rd (Own.keep0 ‹_› hB)) (by omega)) rfl ?_
 refine sw_gx (e' := (gb xs (8))) (lo := 0) (hi := 255) (g_cv (by rw [Try.underlying5]; rfl) Try.underlying24 rfl) (wrap_fit (gb_range xs (8)) rfl) ((gb_range xs (8))) rfl (fun z35 h25 r25 => ?_)
 refine sw_g (g_mv rfl) rfl (sw_g (g_fold (j := 0) (g_rem rfl rfl (by decide)) (by decide)) rfl ?_)
 refine sw_g (g_fold (j := 0) (g_mulw rfl rfl) (by decide)) rfl ?_
 refine sw_gx (e' := z35 * 1) (lo := 0) (hi := 255) (g_shlp (m := 1) rfl rfl (by decide) rfl) (wrap_fit (in_mulc r25 (by decide)) rfl) (In.wk (in_mulc r25 (by decide)) rfl) rfl (fun z36 h26 r26 => ?_)
 refine sw_gx (e' := z36) (lo := 0) (hi := 255) (g_or rfl rfl) (zero_or rfl r26 rfl rfl) (r26) rfl (fun z37 h27 r27 => ?_)
 refine sw_nil ?_
 refine ow_g (g_ixa Try.underlying104 ty24 rfl rfl (by decide)) rfl ?_
 refine ow_d0 (d_st ty24 rfl rfl rfl hb10 rfl) ?_
 rintro _ w20 ⟨hb11, k20, z38⟩
 replace hb1 := hb1.keep k20 (fun hm => absurd (List.mem_singleton.1 hm) ne_b1_b2)
 replace hB := hB.new k20 (fun x hx => .inl ((List.mem_singleton.1 hx) ▸ ge_b2))
 clear z38
 replace hb11 : Bk w20 b2 _ [.int .u64 z33, .int .u64 z37, .int .u64 0, .int .u64 0] := hb11
 refine ow_nil (tw_keep [(0, _), (2, _), (3, _), (6, _)] ⟨rfl, rfl, rfl, rfl, trivial⟩ ?_)
 refine tw_b (tw_region (ow_g (g_fold (j := 9) (g_addw rfl rfl) (by decide)) rfl ?_))
 refine ow_g (g_mv rfl) rfl (ow_nil (tw_lp (tw_seq (tw_region (ow_g (g_lt rfl rfl) rfl ?_)))))
 refine ow_nil (tw_seq (tw_ifT rfl (by decide) ?_))
 refine tw_skip (tw_seq (tw_block (tw_seq (tw_region (ow_g (g_mv rfl) rfl (ow_g (g_as rfl) rfl ?_))))))
 refine ow_nil (tw_still 14 mixed (by decide +kernel) (fun w21 k21 => ?_))
 replace hb1 := hb1.keep0 k21
 replace hb11 := hb11.keep0 k21
 replace hB := hB.trans k21
 refine sw_g (g_mv rfl) rfl (sw_g (g_fold (j := 1) (g_quo rfl rfl (by decide)) (by decide)) rfl ?_)
 refine sw_g (g_ixa Try.underlying104 ty24 rfl rfl (by decide)) rfl ?_
 refine sw_g (g_ldb sc24 rfl hb11 rfl) rfl ?_
 refine sw_g (g_mv rfl) rfl (sw_g (g_mv rfl) rfl (sw_g (g_ix Try.underlying22 ty5 rfl (by first | assumption | exact Own.rd ‹_› | exact Rd.keep0 ‹_› hB | exact Own.rd (Own.keep0 ‹_› hB)) rfl (by omega)) rfl ?_))
 refine sw_g (g_ldB sc5 rfl (by first | assumption | exact Own.rd ‹_› | exact Rd.keep0 ‹_› hB | exact Own.rd (Own.keep0 ‹_› hB)) (by omega)) rfl ?_
 refine sw_gx (e' := (gb xs (9))) (lo := 0) (hi := 255) (g_cv (by rw [Try.underlying5]; rfl) Try.underlying24 rfl) (wrap_fit (gb_range xs (9)) rfl) ((gb_range xs (9))) rfl (fun z39 h28 r28 => ?_)
 refine sw_g (g_mv rfl) rfl (sw_g (g_fold (j := 1) (g_rem rfl rfl (by decide)) (by decide)) rfl ?_)
 refine sw_g (g_fold (j := 8) (g_mulw rfl rfl) (by decide)) rfl ?_
 refine sw_gx (e' := z39 * 256) (lo := 0) (hi := 65280) (g_shlp (m := 256) rfl rfl (by decide) rfl) (wrap_fit (in_mulc r28 (by decide)) rfl) (In.wk (in_mulc r28 (by decide)) rfl) rfl (fun z40 h29 r29 => ?_)
 refine sw_gx (e' := z37 + z40) (lo := 0) (hi := 65535) (g_or rfl rfl) (or_join' 8 (m := 256) r29 rfl r27 rfl rfl rfl rfl (eq_mod h29 (Int.mul_emod_left _ _)) rfl rfl) (In.wk (in_add r27 r29) rfl) rfl (fun z41 h30 r30 => ?_)
 refine sw_nil ?_
 refine ow_g (g_ixa Try.underlying104 ty24 rfl rfl (by decide)) rfl ?_
 refine ow_d0 (d_st ty24 rfl rfl rfl hb11 rfl) ?_
 rintro _ w22 ⟨hb12, k22, z42⟩
 replace hb1 := hb1.keep k22 (fun hm => absurd (List.mem_singleton.1 hm) ne_b1_b2)
 replace hB := hB.new k22 (fun x hx => .inl ((List.mem_singleton.1 hx) ▸ ge_b2))
 clear z42
 replace hb12 : Bk w22 b2 _ [.int .u64 z33, .int .u64 z41, .int .u64 0, .int .u64 0] := hb12
 refine ow_nil (tw_keep [(0, _), (2, _), (3, _), (6, _)] ⟨rfl, rfl, rfl, rfl, trivial⟩ ?_)
 refine tw_b (tw_region (ow_g (g_fold (j := 10) (g_addw rfl rfl) (by decide)) rfl ?_))
 refine ow_g (g_mv rfl) rfl (ow_nil (tw_lp (tw_seq (tw_region (ow_g (g_lt rfl rfl) rfl ?_)))))
 refine ow_nil (tw_seq (tw_ifT rfl (by decide) ?_))
 refine tw_skip (tw_seq (tw_block (tw_seq (tw_region (ow_g (g_mv rfl) rfl (ow_g (g_as rfl) rfl ?_))))))
 refine ow_nil (tw_still 14 mixed (by decide +kernel) (fun w23 k23 => ?_))
 replace hb1 := hb1.keep0 k23
 replace hb12 := hb12.keep0 k23
 replace hB := hB.trans k23
 refine sw_g (g_mv rfl) rfl (sw_g (g_fold (j := 1) (g_quo rfl rfl (by decide)) (by decide)) rfl ?_)
 refine sw_g (g_ixa Try.underlying104 ty24 rfl rfl (by decide)) rfl ?_
 refine sw_g (g_ldb sc24 rfl hb12 rfl) rfl ?_
 refine sw_g (g_mv rfl) rfl (sw_g (g_mv rfl) rfl (sw_g (g_ix Try.underlying22 ty5 rfl (by first | assumption | exact Own.rd ‹_› | exact Rd.keep0 ‹_› hB | exact Own.rd (Own.keep0 ‹_› hB)) rfl (by omega)) rfl ?_))
 refine sw_g (g_ldB sc5 rfl (by first | assumption | exact Own.rd ‹_› | exact Rd.keep0 ‹_› hB | exact Own.rd (Own.keep0 ‹_› hB)) (by omega)) rfl ?_
 refine sw_gx (e' := (gb xs (10))) (lo := 0) (hi := 255) (g_cv (by rw [Try.underlying5]; rfl) Try.underlying24 rfl) (wrap_fit (gb_range xs (10)) rfl) ((gb_range xs (10))) rfl (fun z43 h31 r31 => ?_)
 refine sw_g (g_mv rfl) rfl (sw_g (g_fold (j := 2) (g_rem rfl rfl (by decide)) (by decide)) rfl ?_)
 refine sw_g (g_fold (j := 16) (g_mulw rfl rfl) (by decide)) rfl ?_
 refine sw_gx (e' := z43 * 65536) (lo := 0) (hi := 16711680) (g_shlp (m := 65536) rfl rfl (by decide) rfl) (wrap_fit (in_mulc r31 (by decide)) rfl) (In.wk (in_mulc r31 (by decide)) rfl) rfl (fun z44 h32 r32 => ?_)
 refine sw_gx (e' := z41 + z44) (lo := 0) (hi := 16777215) (g_or rfl rfl) (or_join' 16 (m := 65536) r32 rfl r30 rfl rfl rfl rfl (eq_mod h32 (Int.mul_emod_left _ _)) rfl rfl) (In.wk (in_add r30 r32) rfl) rfl (fun z45 h33 r33 => ?_)
 refine sw_nil ?_
 refine ow_g (g_ixa Try.underlying104 ty24 rfl rfl (by decide)) rfl ?_
 refine ow_d0 (d_st ty24 rfl rfl rfl hb12 rfl) ?_
 rintro _ w24 ⟨hb13, k24, z46⟩
 replace hb1 := hb1.keep k24 (fun hm => absurd (List.mem_singleton.1 hm) ne_b1_b2)
 replace hB := hB.new k24 (fun x hx => .inl ((List.mem_singleton.1 hx) ▸ ge_b2))
 clear z46
 replace hb13 : Bk w24 b2 _ [.int .u64 z33, .int .u64 z45, .int .u64 0, .int .u64 0] := hb13
 refine ow_nil (tw_keep [(0, _), (2, _), (3, _), (6, _)] ⟨rfl, rfl, rfl, rfl, trivial⟩ ?_)
 refine tw_b (tw_region (ow_g (g_fold (j := 11) (g_addw rfl rfl) (by decide)) rfl ?_))
 refine ow_g (g_mv rfl) rfl (ow_nil (tw_lp (tw_seq (tw_region (ow_g (g_lt rfl rfl) rfl ?_)))))
 refine ow_nil (tw_seq (tw_ifT rfl (by decide) ?_))
 refine tw_skip (tw_seq (tw_block (tw_seq (tw_region (ow_g (g_mv rfl) rfl (ow_g (g_as rfl) rfl ?_))))))
 refine ow_nil (tw_still 14 mixed (by decide +kernel) (fun w25 k25 => ?_))
 replace hb1 := hb1.keep0 k25
 replace hb13 := hb13.keep0 k25
 replace hB := hB.trans k25
 refine sw_g (g_mv rfl) rfl (sw_g (g_fold (j := 1) (g_quo rfl rfl (by decide)) (by decide)) rfl ?_)
 refine sw_g (g_ixa Try.underlying104 ty24 rfl rfl (by decide)) rfl ?_
 refine sw_g (g_ldb sc24 rfl hb13 rfl) rfl ?_
 refine sw_g (g_mv rfl) rfl (sw_g (g_mv rfl) rfl (sw_g (g_ix Try.underlying22 ty5 rfl (by first | assumption | exact Own.rd ‹_› | exact Rd.keep0 ‹_› hB | exact Own.rd (Own.keep0 ‹_› hB)) rfl (by omega)) rfl ?_))
 refine sw_g (g_ldB sc5 rfl (by first | assumption | exact Own.rd ‹_› | exact Rd.keep0 ‹_› hB | exact Own.rd (Own.keep0 ‹_› hB)) (by omega)) rfl ?_
 refine sw_gx (e' := (gb xs (11))) (lo := 0) (hi := 255) (g_cv (by rw [Try.underlying5]; rfl) Try.underlying24 rfl) (wrap_fit (gb_range xs (11)) rfl) ((gb_range xs (11))) rfl (fun z47 h34 r34 => ?_)
 refine sw_g (g_mv rfl) rfl (sw_g (g_fold (j := 3) (g_rem rfl rfl (by decide)) (by decide)) rfl ?_)
 refine sw_g (g_fold (j := 24) (g_mulw rfl rfl) (by decide)) rfl ?_
 refine sw_gx (e' := z47 * 16777216) (lo := 0) (hi := 4278190080) (g_shlp (m := 16777216) rfl rfl (by decide) rfl) (wrap_fit (in_mulc r34 (by decide)) rfl) (In.wk (in_mulc r34 (by decide)) rfl) rfl (fun z48 h35 r35 => ?_)
 refine sw_gx (e' := z45 + z48) (lo := 0) (hi := 4294967295) (g_or rfl rfl) (or_join' 24 (m := 16777216) r35 rfl r33 rfl rfl rfl rfl (eq_mod h35 (Int.mul_emod_left _ _)) rfl rfl) (In.wk (in_add r33 r35) rfl) rfl (fun z49 h36 r36 => ?_)
 refine sw_nil ?_
 refine ow_g (g_ixa Try.underlying104 ty24 rfl rfl (by decide)) rfl ?_
 refine ow_d0 (d_st ty24 rfl rfl rfl hb13 rfl) ?_
 rintro _ w26 ⟨hb14, k26, z50⟩
 replace hb1 := hb1.keep k26 (fun hm => absurd (List.mem_singleton.1 hm) ne_b1_b2)
 replace hB := hB.new k26 (fun x hx => .inl ((List.mem_singleton.1 hx) ▸ ge_b2))
 clear z50
 replace hb14 : Bk w26 b2 _ [.int .u64 z33, .int .u64 z49, .int .u64 0, .int .u64 0] := hb14
 refine ow_nil (tw_keep [(0, _), (2, _), (3, _), (6, _)] ⟨rfl, rfl, rfl, rfl, trivial⟩ ?_)
 refine tw_b (tw_region (ow_g (g_fold (j := 12) (g_addw rfl rfl) (by decide)) rfl ?_))
 refine ow_g (g_mv rfl) rfl (ow_nil (tw_lp (tw_seq (tw_region (ow_g (g_lt rfl rfl) rfl ?_)))))
 refine ow_nil (tw_seq (tw_ifT rfl (by decide) ?_))
 refine tw_skip (tw_seq (tw_block (tw_seq (tw_region (ow_g (g_mv rfl) rfl (ow_g (g_as rfl) rfl ?_))))))
 refine ow_nil (tw_still 14 mixed (by decide +kernel) (fun w27 k27 => ?_))
 replace hb1 := hb1.keep0 k27
 replace hb14 := hb14.keep0 k27
 replace hB := hB.trans k27
 refine sw_g (g_mv rfl) rfl (sw_g (g_fold (j := 1) (g_quo rfl rfl (by decide)) (by decide)) rfl ?_)
 refine sw_g (g_ixa Try.underlying104 ty24 rfl rfl (by decide)) rfl ?_
 refine sw_g (g_ldb sc24 rfl hb14 rfl) rfl ?_
 refine sw_g (g_mv rfl) rfl (sw_g (g_mv rfl) rfl (sw_g (g_ix Try.underlying22 ty5 rfl (by first | assumption | exact Own.rd ‹_› | exact Rd.keep0 ‹_› hB | exact Own.rd (Own.keep0 ‹_› hB)) rfl (by omega)) rfl ?_))
 refine sw_g (g_ldB sc5 rfl (by first | assumption | exact Own.rd ‹_› | exact Rd.keep0 ‹_› hB | exact Own.rd (Own.keep0 ‹_› hB)) (by omega)) rfl ?_
 refine sw_gx (e' := (gb xs (12))) (lo := 0) (hi := 255) (g_cv (by rw [Try.underlying5]; rfl) Try.underlying24 rfl) (wrap_fit (gb_range xs (12)) rfl) ((gb_range xs (12))) rfl (fun z51 h37 r37 => ?_)
 refine sw_g (g_mv rfl) rfl (sw_g (g_fold (j := 4) (g_rem rfl rfl (by decide)) (by decide)) rfl ?_)
 refine sw_g (g_fold (j := 32) (g_mulw rfl rfl) (by decide)) rfl ?_
 refine sw_gx (e' := z51 * 4294967296) (lo := 0) (hi := 1095216660480) (g_shlp (m := 4294967296) rfl rfl (by decide) rfl) (wrap_fit (in_mulc r37 (by decide)) rfl) (In.wk (in_mulc r37 (by decide)) rfl) rfl (fun z52 h38 r38 => ?_)
 refine sw_gx (e' := z49 + z52) (lo := 0) (hi := 1099511627775) (g_or rfl rfl) (or_join' 32 (m := 4294967296) r38 rfl r36 rfl rfl rfl rfl (eq_mod h38 (Int.mul_emod_left _ _)) rfl rfl) (In.wk (in_add r36 r38) rfl) rfl (fun z53 h39 r39 => ?_)
 refine sw_nil ?_
 refine ow_g (g_ixa Try.underlying104 ty24 rfl rfl (by decide)) rfl ?_
 refine ow_d0 (d_st ty24 rfl rfl rfl hb14 rfl) ?_
 rintro _ w28 ⟨hb15, k28, z54⟩
 replace hb1 := hb1.keep k28 (fun hm => absurd (List.mem_singleton.1 hm) ne_b1_b2)
 replace hB := hB.new k28 (fun x hx => .inl ((List.mem_singleton.1 hx) ▸ ge_b2))
 clear z54
 replace hb15 : Bk w28 b2 _ [.int .u64 z33, .int .u64 z53, .int .u64 0, .int .u64 0] := hb15
 refine ow_nil (tw_keep [(0, _), (2, _), (3, _), (6, _)] ⟨rfl, rfl, rfl, rfl, trivial⟩ ?_)
 refine tw_b (tw_region (ow_g (g_fold (j := 13) (g_addw rfl rfl) (by decide)) rfl ?_))
 refine ow_g (g_mv rfl) rfl (ow_nil (tw_lp (tw_seq (tw_region (ow_g (g_lt rfl rfl) rfl ?_)))))
 refine ow_nil (tw_seq (tw_ifT rfl (by decide) ?_))
 refine tw_skip (tw_seq (tw_block (tw_seq (tw_region (ow_g (g_mv rfl) rfl (ow_g (g_as rfl) rfl ?_))))))
 refine ow_nil (tw_still 14 mixed (by decide +kernel) (fun w29 k29 => ?_))
 replace hb1 := hb1.keep0 k29
 replace hb15 := hb15.keep0 k29
 replace hB := hB.trans k29
 refine sw_g (g_mv rfl) rfl (sw_g (g_fold (j := 1) (g_quo rfl rfl (by decide)) (by decide)) rfl ?_)
 refine sw_g (g_ixa Try.underlying104 ty24 rfl rfl (by decide)) rfl ?_
 refine sw_g (g_ldb sc24 rfl hb15 rfl) rfl ?_
 refine sw_g (g_mv rfl) rfl (sw_g (g_mv rfl) rfl (sw_g (g_ix Try.underlying22 ty5 rfl (by first | assumption | exact Own.rd ‹_› | exact Rd.keep0 ‹_› hB | exact Own.rd (Own.keep0 ‹_› hB)) rfl (by omega)) rfl ?_))
 refine sw_g (g_ldB sc5 rfl (by first | assumption | exact Own.rd ‹_› | exact Rd.keep0 ‹_› hB | exact Own.rd (Own.keep0 ‹_› hB)) (by omega)) rfl ?_
 refine sw_gx (e' := (gb xs (13))) (lo := 0) (hi := 255) (g_cv (by rw [Try.underlying5]; rfl) Try.underlying24 rfl) (wrap_fit (gb_range xs (13)) rfl) ((gb_range xs (13))) rfl (fun z55 h40 r40 => ?_)
 refine sw_g (g_mv rfl) rfl (sw_g (g_fold (j := 5) (g_rem rfl rfl (by decide)) (by decide)) rfl ?_)
 refine sw_g (g_fold (j := 40) (g_mulw rfl rfl) (by decide)) rfl ?_
 refine sw_gx (e' := z55 * 1099511627776) (lo := 0) (hi := 280375465082880) (g_shlp (m := 1099511627776) rfl rfl (by decide) rfl) (wrap_fit (in_mulc r40 (by decide)) rfl) (In.wk (in_mulc r40 (by decide)) rfl) rfl (fun z56 h41 r41 => ?_)
 refine sw_gx (e' := z53 + z56) (lo := 0) (hi := 281474976710655) (g_or rfl rfl) (or_join' 40 (m := 1099511627776) r41 rfl r39 rfl rfl rfl rfl (eq_mod h41 (Int.mul_emod_left _ _)) rfl rfl) (In.wk (in_add r39 r41) rfl) rfl (fun z57 h42 r42 => ?_)
 refine sw_nil ?_
 refine ow_g (g_ixa Try.underlying104 ty24 rfl rfl (by decide)) rfl ?_
 refine ow_d0 (d_st ty24 rfl rfl rfl hb15 rfl) ?_
 rintro _ w30 ⟨hb16, k30, z58⟩
 replace hb1 := hb1.keep k30 (fun hm => absurd (List.mem_singleton.1 hm) ne_b1_b2)
 replace hB := hB.new k30 (fun x hx => .inl ((List.mem_singleton.1 hx) ▸ ge_b2))
 clear z58
 replace hb16 : Bk w30 b2 _ [.int .u64 z33, .int .u64 z57, .int .u64 0, .int .u64 0] := hb16
 refine ow_nil (tw_keep [(0, _), (2, _), (3, _), (6, _)] ⟨rfl, rfl, rfl, rfl, trivial⟩ ?_)
 refine tw_b (tw_region (ow_g (g_fold (j := 14) (g_addw rfl rfl) (by decide)) rfl ?_))
 refine ow_g (g_mv rfl) rfl (ow_nil (tw_lp (tw_seq (tw_region (ow_g (g_lt rfl rfl) rfl ?_)))))
 refine ow_nil (tw_seq (tw_ifT rfl (by decide) ?_))
 refine tw_skip (tw_seq (tw_block (tw_seq (tw_region (ow_g (g_mv rfl) rfl (ow_g (g_as rfl) rfl ?_))))))
 refine ow_nil (tw_still 14 mixed (by decide +kernel) (fun w31 k31 => ?_))
 replace hb1 := hb1.keep0 k31
 replace hb16 := hb16.keep0 k31
 replace hB := hB.trans k31
 refine sw_g (g_mv rfl) rfl (sw_g (g_fold (j := 1) (g_quo rfl rfl (by decide)) (by decide)) rfl ?_)
 refine sw_g (g_ixa Try.underlying104 ty24 rfl rfl (by decide)) rfl ?_
 refine sw_g (g_ldb sc24 rfl hb16 rfl) rfl ?_
 refine sw_g (g_mv rfl) rfl (sw_g (g_mv rfl) rfl (sw_g (g_ix Try.underlying22 ty5 rfl (by first | assumption | exact Own.rd ‹_› | exact Rd.keep0 ‹_› hB | exact Own.rd (Own.keep0 ‹_› hB)) rfl (by omega)) rfl ?_))
 refine sw_g (g_ldB sc5 rfl (by first | assumption | exact Own.rd ‹_› | exact Rd.keep0 ‹_› hB | exact Own.rd (Own.keep0 ‹_› hB)) (by omega)) rfl ?_
 refine sw_gx (e' := (gb xs (14))) (lo := 0) (hi := 255) (g_cv (by rw [Try.underlying5]; rfl) Try.underlying24 rfl) (wrap_fit (gb_range xs (14)) rfl) ((gb_range xs (14))) rfl (fun z59 h43 r43 => ?_)
 refine sw_g (g_mv rfl) rfl (sw_g (g_fold (j := 6) (g_rem rfl rfl (by decide)) (by decide)) rfl ?_)
 refine sw_g (g_fold (j := 48) (g_mulw rfl rfl) (by decide)) rfl ?_
 refine sw_gx (e' := z59 * 281474976710656) (lo := 0) (hi := 71776119061217280) (g_shlp (m := 281474976710656) rfl rfl (by decide) rfl) (wrap_fit (in_mulc r43 (by decide)) rfl) (In.wk (in_mulc r43 (by decide)) rfl) rfl (fun z60 h44 r44 => ?_)
 refine sw_gx (e' := z57 + z60) (lo := 0) (hi := 72057594037927935) (g_or rfl rfl) (or_join' 48 (m := 281474976710656) r44 rfl r42 rfl rfl rfl rfl (eq_mod h44 (Int.mul_emod_left _ _)) rfl rfl) (In.wk (in_add r42 r44) rfl) rfl (fun z61 h45 r45 => ?_)
 refine sw_nil ?_
 refine ow_g (g_ixa Try.underlying104 ty24 rfl rfl (by decide)) rfl ?_
 refine ow_d0 (d_st ty24 rfl rfl rfl hb16 rfl) ?_
 rintro _ w32 ⟨hb17, k32, z62⟩
 replace hb1 := hb1.keep k32 (fun hm => absurd (List.mem_singleton.1 hm) ne_b1_b2)
 replace hB := hB.new k32 (fun x hx => .inl ((List.mem_singleton.1 hx) ▸ ge_b2))
 clear z62
 replace hb17 : Bk w32 b2 _ [.int .u64 z33, .int .u64 z61, .int .u64 0, .int .u64 0] := hb17
 refine ow_nil (tw_keep [(0, _), (2, _), (3, _), (6, _)] ⟨rfl, rfl, rfl, rfl, trivial⟩ ?_)
 refine tw_b (tw_region (ow_g (g_fold (j := 15) (g_addw rfl rfl) (by decide)) rfl ?_))
 refine ow_g (g_mv rfl) rfl (ow_nil (tw_lp (tw_seq (tw_region (ow_g (g_lt rfl rfl) rfl ?_)))))
 refine ow_nil (tw_seq (tw_ifT rfl (by decide) ?_))
 refine tw_skip (tw_seq (tw_block (tw_seq (tw_region (ow_g (g_mv rfl) rfl (ow_g (g_as rfl) rfl ?_))))))
 refine ow_nil (tw_still 14 mixed (by decide +kernel) (fun w33 k33 => ?_))
 replace hb1 := hb1.keep0 k33
 replace hb17 := hb17.keep0 k33
 replace hB := hB.trans k33
 refine sw_g (g_mv rfl) rfl (sw_g (g_fold (j := 1) (g_quo rfl rfl (by decide)) (by decide)) rfl ?_)
 refine sw_g (g_ixa Try.underlying104 ty24 rfl rfl (by decide)) rfl ?_
 refine sw_g (g_ldb sc24 rfl hb17 rfl) rfl ?_
 refine sw_g (g_mv rfl) rfl (sw_g (g_mv rfl) rfl (sw_g (g_ix Try.underlying22 ty5 rfl (by first | assumption | exact Own.rd ‹_› | exact Rd.keep0 ‹_› hB | exact Own.rd (Own.keep0 ‹_› hB)) rfl (by omega)) rfl ?_))
 refine sw_g (g_ldB sc5 rfl (by first | assumption | exact Own.rd ‹_› | exact Rd.keep0 ‹_› hB | exact Own.rd (Own.keep0 ‹_› hB)) (by omega)) rfl ?_
 refine sw_gx (e' := (gb xs (15))) (lo := 0) (hi := 255) (g_cv (by rw [Try.underlying5]; rfl) Try.underlying24 rfl) (wrap_fit (gb_range xs (15)) rfl) ((gb_range xs (15))) rfl (fun z63 h46 r46 => ?_)
 refine sw_g (g_mv rfl) rfl (sw_g (g_fold (j := 7) (g_rem rfl rfl (by decide)) (by decide)) rfl ?_)
 refine sw_g (g_fold (j := 56) (g_mulw rfl rfl) (by decide)) rfl ?_
 refine sw_gx (e' := z63 * 72057594037927936) (lo := 0) (hi := 18374686479671623680) (g_shlp (m := 72057594037927936) rfl rfl (by decide) rfl) (wrap_fit (in_mulc r46 (by decide)) rfl) (In.wk (in_mulc r46 (by decide)) rfl) rfl (fun z64 h47 r47 => ?_)
 refine sw_gx (e' := z61 + z64) (lo := 0) (hi := 18446744073709551615) (g_or rfl rfl) (or_join' 56 (m := 72057594037927936) r47 rfl r45 rfl rfl rfl rfl (eq_mod h47 (Int.mul_emod_left _ _)) rfl rfl) (In.wk (in_add r45 r47) rfl) rfl (fun z65 h48 r48 => ?_)
 refine sw_nil ?_
 refine ow_g (g_ixa Try.underlying104 ty24 rfl rfl (by decide)) rfl ?_
 refine ow_d0 (d_st ty24 rfl rfl rfl hb17 rfl) ?_
 rintro _ w34 ⟨hb18, k34, z66⟩
 replace hb1 := hb1.keep k34 (fun hm => absurd (List.mem_singleton.1 hm) ne_b1_b2)
 replace hB := hB.new k34 (fun x hx => .inl ((List.mem_singleton.1 hx) ▸ ge_b2))
 clear z66
 replace hb18 : Bk w34 b2 _ [.int .u64 z33, .int .u64 z65, .int .u64 0, .int .u64 0] := hb18
 refine ow_nil (tw_keep [(0, _), (2, _), (3, _), (6, _)] ⟨rfl, rfl, rfl, rfl, trivial⟩ ?_)
 refine tw_b (tw_region (ow_g (g_fold (j := 16) (g_addw rfl rfl) (by decide)) rfl ?_))
 refine ow_g (g_mv rfl) rfl (ow_nil (tw_lp (tw_seq (tw_region (ow_g (g_lt rfl rfl) rfl ?_)))))
 refine ow_nil (tw_seq (tw_ifT rfl (by decide) ?_))
 refine tw_skip (tw_seq (tw_block (tw_seq (tw_region (ow_g (g_mv rfl) rfl (ow_g (g_as rfl) rfl ?_))))))
 refine ow_nil (tw_still 14 mixed (by decide +kernel) (fun w35 k35 => ?_))
 replace hb1 := hb1.keep0 k35
 replace hb18 := hb18.keep0 k35
 replace hB := hB.trans k35
 refine sw_g (g_mv rfl) rfl (sw_g (g_fold (j := 2) (g_quo rfl rfl (by decide)) (by decide)) rfl ?_)
 refine sw_g (g_ixa Try.underlying104 ty24 rfl rfl (by decide)) rfl ?_
 refine sw_g (g_ldb sc24 rfl hb18 rfl) rfl ?_
 refine sw_g (g_mv rfl) rfl (sw_g (g_mv rfl) rfl (sw_g (g_ix Try.underlying22 ty5 rfl (by first | assumption | exact Own.rd ‹_› | exact Rd.keep0 ‹_› hB | exact Own.rd (Own.keep0 ‹_› hB)) rfl (by omega)) rfl ?_))
 refine sw_g (g_ldB sc5 rfl (by first | assumption | exact Own.rd ‹_› | exact Rd.keep0 ‹_› hB | exact Own.rd (Own.keep0 ‹_› hB)) (by omega)) rfl ?_
 refine sw_gx (e' := (gb xs (16))) (lo := 0) (hi := 255) (g_cv (by rw [Try.underlying5]; rfl) Try.underlying24 rfl) (wrap_fit (gb_range xs (16)) rfl) ((gb_range xs (16))) rfl (fun z67 h49 r49 => ?_)
 refine sw_g (g_mv rfl) rfl (sw_g (g_fold (j := 0) (g_rem rfl rfl (by decide)) (by decide)) rfl ?_)
 refine sw_g (g_fold (j := 0) (g_mulw rfl rfl) (by decide)) rfl ?_
 refine sw_gx (e' := z67 * 1) (lo := 0) (hi := 255) (g_shlp (m := 1) rfl rfl (by decide) rfl) (wrap_fit (in_mulc r49 (by decide)) rfl) (In.wk (in_mulc r49 (by decide)) rfl) rfl (fun z68 h50 r50 => ?_)
 refine sw_gx (e' := z68) (lo := 0) (hi := 255) (g_or rfl rfl) (zero_or rfl r50 rfl rfl) (r50) rfl (fun z69 h51 r51 => ?_)
 refine sw_nil ?_
 refine ow_g (g_ixa Try.underlying104 ty24 rfl rfl (by decide)) rfl ?_
 refine ow_d0 (d_st ty24 rfl rfl rfl hb18 rfl) ?_
 rintro _ w36 ⟨hb19, k36, z70⟩
 replace hb1 := hb1.keep k36 (fun hm => absurd (List.mem_singleton.1 hm) ne_b1_b2)
 replace hB := hB.new k36 (fun x hx => .inl ((List.mem_singleton.1 hx) ▸ ge_b2))
 clear z70
 replace hb19 : Bk w36 b2 _ [.int .u64 z33, .int .u64 z65, .int .u64 z69, .int .u64 0] := hb19
 refine ow_nil (tw_keep [(0, _), (2, _), (3, _), (6, _)] ⟨rfl, rfl, rfl, rfl, trivial⟩ ?_)
 refine tw_b (tw_region (ow_g (g_fold (j := 17) (g_addw rfl rfl) (by decide)) rfl ?_))
 refine ow_g (g_mv rfl) rfl (ow_nil (tw_lp (tw_seq (tw_region (ow_g (g_lt rfl rfl) rfl ?_)))))
 refine ow_nil (tw_seq (tw_ifT rfl (by decide) ?_))
 refine tw_skip (tw_seq (tw_block (tw_seq (tw_region (ow_g (g_mv rfl) rfl (ow_g (g_as rfl) rfl ?_))))))
 refine ow_nil (tw_still 14 mixed (by decide +kernel) (fun w37 k37 => ?_))
 replace hb1 := hb1.keep0 k37
 replace hb19 := hb19.keep0 k37
 replace hB := hB.trans k37
 refine sw_g (g_mv rfl) rfl (sw_g (g_fold (j := 2) (g_quo rfl rfl (by decide)) (by decide)) rfl ?_)
 refine sw_g (g_ixa Try.underlying104 ty24 rfl rfl (by decide)) rfl ?_
 refine sw_g (g_ldb sc24 rfl hb19 rfl) rfl ?_
 refine sw_g (g_mv rfl) rfl (sw_g (g_mv rfl) rfl (sw_g (g_ix Try.underlying22 ty5 rfl (by first | assumption | exact Own.rd ‹_› | exact Rd.keep0 ‹_› hB | exact Own.rd (Own.keep0 ‹_› hB)) rfl (by omega)) rfl ?_))
 refine sw_g (g_ldB sc5 rfl (by first | assumption | exact Own.rd ‹_› | exact Rd.keep0 ‹_› hB | exact Own.rd (Own.keep0 ‹_› hB)) (by omega)) rfl ?_
 refine sw_gx (e' := (gb xs (17))) (lo := 0) (hi := 255) (g_cv (by rw [Try.underlying5]; rfl) Try.underlying24 rfl) (wrap_fit (gb_range xs (17)) rfl) ((gb_range xs (17))) rfl (fun z71 h52 r52 => ?_)
 refine sw_g (g_mv rfl) rfl (sw_g (g_fold (j := 1) (g_rem rfl rfl (by decide)) (by decide)) rfl ?_)
 refine sw_g (g_fold (j := 8) (g_mulw rfl rfl) (by decide)) rfl ?_
 refine sw_gx (e' := z71 * 256) (lo := 0) (hi := 65280) (g_shlp (m := 256) rfl rfl (by decide) rfl) (wrap_fit (in_mulc r52 (by decide)) rfl) (In.wk (in_mulc r52 (by decide)) rfl) rfl (fun z72 h53 r53 => ?_)
 refine sw_gx (e' := z69 + z72) (lo := 0) (hi := 65535) (g_or rfl rfl) (or_join' 8 (m := 256) r53 rfl r51 rfl rfl rfl rfl (eq_mod h53 (Int.mul_emod_left _ _)) rfl rfl) (In.wk (in_add r51 r53) rfl) rfl (fun z73 h54 r54 => ?_)
 refine sw_nil ?_
 refine ow_g (g_ixa Try.underlying104 ty24 rfl rfl (by decide)) rfl ?_
 refine ow_d0 (d_st ty24 rfl rfl rfl hb19 rfl) ?_
 rintro _ w38 ⟨hb20, k38, z74⟩
 replace hb1 := hb1.keep k38 (fun hm => absurd (List.mem_singleton.1 hm) ne_b1_b2)
 replace hB := hB.new k38 (fun x hx => .inl ((List.mem_singleton.1 hx) ▸ ge_b2))
 clear z74
 replace hb20 : Bk w38 b2 _ [.int .u64 z33, .int .u64 z65, .int .u64 z73, .int .u64 0] := hb20
 refine ow_nil (tw_keep [(0, _), (2, _), (3, _), (6, _)] ⟨rfl, rfl, rfl, rfl, trivial⟩ ?_)
 refine tw_b (tw_region (ow_g (g_fold (j := 18) (g_addw rfl rfl) (by decide)) rfl ?_))
 refine ow_g (g_mv rfl) rfl (ow_nil (tw_lp (tw_seq (tw_region (ow_g (g_lt rfl rfl) rfl ?_)))))
 refine ow_nil (tw_seq (tw_ifT rfl (by decide) ?_))
 refine tw_skip (tw_seq (tw_block (tw_seq (tw_region (ow_g (g_mv rfl) rfl (ow_g (g_as rfl) rfl ?_))))))
 refine ow_nil (tw_still 14 mixed (by decide +kernel) (fun w39 k39 => ?_))
 replace hb1 := hb1.keep0 k39
 replace hb20 := hb20.keep0 k39
 replace hB := hB.trans k39
 refine sw_g (g_mv rfl) rfl (sw_g (g_fold (j := 2) (g_quo rfl rfl (by decide)) (by decide)) rfl ?_)
 refine sw_g (g_ixa Try.underlying104 ty24 rfl rfl (by decide)) rfl ?_
 refine sw_g (g_ldb sc24 rfl hb20 rfl) rfl ?_
 refine sw_g (g_mv rfl) rfl (sw_g (g_mv rfl) rfl (sw_g (g_ix Try.underlying22 ty5 rfl (by first | assumption | exact Own.rd ‹_› | exact Rd.keep0 ‹_› hB | exact Own.rd (Own.keep0 ‹_› hB)) rfl (by omega)) rfl ?_))
 refine sw_g (g_ldB sc5 rfl (by first | assumption | exact Own.rd ‹_› | exact Rd.keep0 ‹_› hB | exact Own.rd (Own.keep0 ‹_› hB)) (by omega)) rfl ?_
 refine sw_gx (e' := (gb xs (18))) (lo := 0) (hi := 255) (g_cv (by rw [Try.underlying5]; rfl) Try.underlying24 rfl) (wrap_fit (gb_range xs (18)) rfl) ((gb_range xs (18))) rfl (fun z75 h55 r55 => ?_)
 refine sw_g (g_mv rfl) rfl (sw_g (g_fold (j := 2) (g_rem rfl rfl (by decide)) (by decide)) rfl ?_)
 refine sw_g (g_fold (j := 16) (g_mulw rfl rfl) (by decide)) rfl ?_
 refine sw_gx (e' := z75 * 65536) (lo := 0) (hi := 16711680) (g_shlp (m := 65536) rfl rfl (by decide) rfl) (wrap_fit (in_mulc r55 (by decide)) rfl) (In.wk (in_mulc r55 (by decide)) rfl) rfl (fun z76 h56 r56 => ?_)
 refine sw_gx (e' := z73 + z76) (lo := 0) (hi := 16777215) (g_or rfl rfl) (or_join' 16 (m := 65536) r56 rfl r54 rfl rfl rfl rfl (eq_mod h56 (Int.mul_emod_left _ _)) rfl rfl) (In.wk (in_add r54 r56) rfl) rfl (fun z77 h57 r57 => ?_)
 refine sw_nil ?_
 refine ow_g (g_ixa Try.underlying104 ty24 rfl rfl (by decide)) rfl ?_
 refine ow_d0 (d_st ty24 rfl rfl rfl hb20 rfl) ?_
 rintro _ w40 ⟨hb21, k40, z78⟩
 replace hb1 := hb1.keep k40 (fun hm => absurd (List.mem_singleton.1 hm) ne_b1_b2)
 replace hB := hB.new k40 (fun x hx => .inl ((List.mem_singleton.1 hx) ▸ ge_b2))
 clear z78
 replace hb21 : Bk w40 b2 _ [.int .u64 z33, .int .u64 z65, .int .u64 z77, .int .u64 0] := hb21
 refine ow_nil (tw_keep [(0, _), (2, _), (3, _), (6, _)] ⟨rfl, rfl, rfl, rfl, trivial⟩ ?_)
 refine tw_b (tw_region (ow_g (g_fold (j := 19) (g_addw rfl rfl) (by decide)) rfl ?_))
 refine ow_g (g_mv rfl) rfl (ow_nil (tw_lp (tw_seq (tw_region (ow_g (g_lt rfl rfl) rfl ?_)))))
 refine ow_nil (tw_seq (tw_ifT rfl (by decide) ?_))
 refine tw_skip (tw_seq (tw_block (tw_seq (tw_region (ow_g (g_mv rfl) rfl (ow_g (g_as rfl) rfl ?_))))))
 refine ow_nil (tw_still 14 mixed (by decide +kernel) (fun w41 k41 => ?_))
 replace hb1 := hb1.keep0 k41
 replace hb21 := hb21.keep0 k41
 replace hB := hB.trans k41
 refine sw_g (g_mv rfl) rfl (sw_g (g_fold (j := 2) (g_quo rfl rfl (by decide)) (by decide)) rfl ?_)
 refine sw_g (g_ixa Try.underlying104 ty24 rfl rfl (by decide)) rfl ?_
 refine sw_g (g_ldb sc24 rfl hb21 rfl) rfl ?_
 refine sw_g (g_mv rfl) rfl (sw_g (g_mv rfl) rfl (sw_g (g_ix Try.underlying22 ty5 rfl (by first | assumption | exact Own.rd ‹_› | exact Rd.keep0 ‹_› hB | exact Own.rd (Own.keep0 ‹_› hB)) rfl (by omega)) rfl ?_))
 refine sw_g (g_ldB sc5 rfl (by first | assumption | exact Own.rd ‹_› | exact Rd.keep0 ‹_› hB | exact Own.rd (Own.keep0 ‹_› hB)) (by omega)) rfl ?_
 refine sw_gx (e' := (gb xs (19))) (lo := 0) (hi := 255) (g_cv (by rw [Try.underlying5]; rfl) Try.underlying24 rfl) (wrap_fit (gb_range xs (19)) rfl) ((gb_range xs (19))) rfl (fun z79 h58 r58 => ?_)
 refine sw_g (g_mv rfl) rfl (sw_g (g_fold (j := 3) (g_rem rfl rfl (by decide)) (by decide)) rfl ?_)
 refine sw_g (g_fold (j := 24) (g_mulw rfl rfl) (by decide)) rfl ?_
 refine sw_gx (e' := z79 * 16777216) (lo := 0) (hi := 4278190080) (g_shlp (m := 16777216) rfl rfl (by decide) rfl) (wrap_fit (in_mulc r58 (by decide)) rfl) (In.wk (in_mulc r58 (by decide)) rfl) rfl (fun z80 h59 r59 => ?_)
 refine sw_gx (e' := z77 + z80) (lo := 0) (hi := 4294967295) (g_or rfl rfl) (or_join' 24 (m := 16777216) r59 rfl r57 rfl rfl rfl rfl (eq_mod h59 (Int.mul_emod_left _ _)) rfl rfl) (In.wk (in_add r57 r59) rfl) rfl (fun z81 h60 r60 => ?_)
 refine sw_nil ?_
 refine ow_g (g_ixa Try.underlying104 ty24 rfl rfl (by decide)) rfl ?_
 refine ow_d0 (d_st ty24 rfl rfl rfl hb21 rfl) ?_
 rintro _ w42 ⟨hb22, k42, z82⟩
 replace hb1 := hb1.keep k42 (fun hm => absurd (List.mem_singleton.1 hm) ne_b1_b2)
 replace hB := hB.new k42 (fun x hx => .inl ((List.mem_singleton.1 hx) ▸ ge_b2))
 clear z82
 replace hb22 : Bk w42 b2 _ [.int .u64 z33, .int .u64 z65, .int .u64 z81, .int .u64 0] := hb22
 refine ow_nil (tw_keep [(0, _), (2, _), (3, _), (6, _)] ⟨rfl, rfl, rfl, rfl, trivial⟩ ?_)
 refine tw_b (tw_region (ow_g (g_fold (j := 20) (g_addw rfl rfl) (by decide)) rfl ?_))
 refine ow_g (g_mv rfl) rfl (ow_nil (tw_lp (tw_seq (tw_region (ow_g (g_lt rfl rfl) rfl ?_)))))
 refine ow_nil (tw_seq (tw_ifT rfl (by decide) ?_))
 refine tw_skip (tw_seq (tw_block (tw_seq (tw_region (ow_g (g_mv rfl) rfl (ow_g (g_as rfl) rfl ?_))))))
 refine ow_nil (tw_still 14 mixed (by decide +kernel) (fun w43 k43 => ?_))
 replace hb1 := hb1.keep0 k43
 replace hb22 := hb22.keep0 k43
 replace hB := hB.trans k43
 refine sw_g (g_mv rfl) rfl (sw_g (g_fold (j := 2) (g_quo rfl rfl (by decide)) (by decide)) rfl ?_)
 refine sw_g (g_ixa Try.underlying104 ty24 rfl rfl (by decide)) rfl ?_
 refine sw_g (g_ldb sc24 rfl hb22 rfl) rfl ?_
 refine sw_g (g_mv rfl) rfl (sw_g (g_mv rfl) rfl (sw_g (g_ix Try.underlying22 ty5 rfl (by first | assumption | exact Own.rd ‹_› | exact Rd.keep0 ‹_› hB | exact Own.rd (Own.keep0 ‹_› hB)) rfl (by omega)) rfl ?_))
 refine sw_g (g_ldB sc5 rfl (by first | assumption | exact Own.rd ‹_› | exact Rd.keep0 ‹_› hB | exact Own.rd (Own.keep0 ‹_› hB)) (by omega)) rfl ?_
 refine sw_gx (e' := (gb xs (20))) (lo := 0) (hi := 255) (g_cv (by rw [Try.underlying5]; rfl) Try.underlying24 rfl) (wrap_fit (gb_range xs (20)) rfl) ((gb_range xs (20))) rfl (fun z83 h61 r61 => ?_)
 refine sw_g (g_mv rfl) rfl (sw_g (g_fold (j := 4) (g_rem rfl rfl (by decide)) (by decide)) rfl ?_)
 refine sw_g (g_fold (j := 32) (g_mulw rfl rfl) (by decide)) rfl ?_
 refine sw_gx (e' := z83 * 4294967296) (lo := 0) (hi := 1095216660480) (g_shlp (m := 4294967296) rfl rfl (by decide) rfl) (wrap_fit (in_mulc r61 (by decide)) rfl) (In.wk (in_mulc r61 (by decide)) rfl) rfl (fun z84 h62 r62 => ?_)
 refine sw_gx (e' := z81 + z84) (lo := 0) (hi := 1099511627775) (g_or rfl rfl) (or_join' 32 (m := 4294967296) r62 rfl r60 rfl rfl rfl rfl (eq_mod h62 (Int.mul_emod_left _ _)) rfl rfl) (In.wk (in_add r60 r62) rfl) rfl (fun z85 h63 r63 => ?_)
 refine sw_nil ?_
 refine ow_g (g_ixa Try.underlying104 ty24 rfl rfl (by decide)) rfl ?_
 refine ow_d0 (d_st ty24 rfl rfl rfl hb22 rfl) ?_
 rintro _ w44 ⟨hb23, k44, z86⟩
 replace hb1 := hb1.keep k44 (fun hm => absurd (List.mem_singleton.1 hm) ne_b1_b2)
 replace hB := hB.new k44 (fun x hx => .inl ((List.mem_singleton.1 hx) ▸ ge_b2))
 clear z86
 replace hb23 : Bk w44 b2 _ [.int .u64 z33, .int .u64 z65, .int .u64 z85, .int .u64 0] := hb23
 refine ow_nil (tw_keep [(0, _), (2, _), (3, _), (6, _)] ⟨rfl, rfl, rfl, rfl, trivial⟩ ?_)
 refine tw_b (tw_region (ow_g (g_fold (j := 21) (g_addw rfl rfl) (by decide)) rfl ?_))
 refine ow_g (g_mv rfl) rfl (ow_nil (tw_lp (tw_seq (tw_region (ow_g (g_lt rfl rfl) rfl ?_)))))
 refine ow_nil (tw_seq (tw_ifT rfl (by decide) ?_))
 refine tw_skip (tw_seq (tw_block (tw_seq (tw_region (ow_g (g_mv rfl) rfl (ow_g (g_as rfl) rfl ?_))))))
 refine ow_nil (tw_still 14 mixed (by decide +kernel) (fun w45 k45 => ?_))
 replace hb1 := hb1.keep0 k45
 replace hb23 := hb23.keep0 k45
 replace hB := hB.trans k45
 refine sw_g (g_mv rfl) rfl (sw_g (g_fold (j := 2) (g_quo rfl rfl (by decide)) (by decide)) rfl ?_)
 refine sw_g (g_ixa Try.underlying104 ty24 rfl rfl (by decide)) rfl ?_
 refine sw_g (g_ldb sc24 rfl hb23 rfl) rfl ?_
 refine sw_g (g_mv rfl) rfl (sw_g (g_mv rfl) rfl (sw_g (g_ix Try.underlying22 ty5 rfl (by first | assumption | exact Own.rd ‹_› | exact Rd.keep0 ‹_› hB | exact Own.rd (Own.keep0 ‹_› hB)) rfl (by omega)) rfl ?_))
 refine sw_g (g_ldB sc5 rfl (by first | assumption | exact Own.rd ‹_› | exact Rd.keep0 ‹_› hB | exact Own.rd (Own.keep0 ‹_› hB)) (by omega)) rfl ?_
 refine sw_gx (e' := (gb xs (21))) (lo := 0) (hi := 255) (g_cv (by rw [Try.underlying5]; rfl) Try.underlying24 rfl) (wrap_fit (gb_range xs (21)) rfl) ((gb_range xs (21))) rfl (fun z87 h64 r64 => ?_)
 refine sw_g (g_mv rfl) rfl (sw_g (g_fold (j := 5) (g_rem rfl rfl (by decide)) (by decide)) rfl ?_)
 refine sw_g (g_fold (j := 40) (g_mulw rfl rfl) (by decide)) rfl ?_
 refine sw_gx (e' := z87 * 1099511627776) (lo := 0) (hi := 280375465082880) (g_shlp (m := 1099511627776) rfl rfl (by decide) rfl) (wrap_fit (in_mulc r64 (by decide)) rfl) (In.wk (in_mulc r64 (by decide)) rfl) rfl (fun z88 h65 r65 => ?_)
 refine sw_gx (e' := z85 + z88) (lo := 0) (hi := 281474976710655) (g_or rfl rfl) (or_join' 40 (m := 1099511627776) r65 rfl r63 rfl rfl rfl rfl (eq_mod h65 (Int.mul_emod_left _ _)) rfl rfl) (In.wk (in_add r63 r65) rfl) rfl (fun z89 h66 r66 => ?_)
 refine sw_nil ?_
 refine ow_g (g_ixa Try.underlying104 ty24 rfl rfl (by decide)) rfl ?_
 refine ow_d0 (d_st ty24 rfl rfl rfl hb23 rfl) ?_
 rintro _ w46 ⟨hb24, k46, z90⟩
 replace hb1 := hb1.keep k46 (fun hm => absurd (List.mem_singleton.1 hm) ne_b1_b2)
 replace hB := hB.new k46 (fun x hx => .inl ((List.mem_singleton.1 hx) ▸ ge_b2))
 clear z90
 replace hb24 : Bk w46 b2 _ [.int .u64 z33, .int .u64 z65, .int .u64 z89, .int .u64 0] := hb24
 refine ow_nil (tw_keep [(0, _), (2, _), (3, _), (6, _)] ⟨rfl, rfl, rfl, rfl, trivial⟩ ?_)
 refine tw_b (tw_region (ow_g (g_fold (j := 22) (g_addw rfl rfl) (by decide)) rfl ?_))
 refine ow_g (g_mv rfl) rfl (ow_nil (tw_lp (tw_seq (tw_region (ow_g (g_lt rfl rfl) rfl ?_)))))
 refine ow_nil (tw_seq (tw_ifT rfl (by decide) ?_))
 refine tw_skip (tw_seq (tw_block (tw_seq (tw_region (ow_g (g_mv rfl) rfl (ow_g (g_as rfl) rfl ?_))))))
 refine ow_nil (tw_still 14 mixed (by decide +kernel) (fun w47 k47 => ?_))
 replace hb1 := hb1.keep0 k47
 replace hb24 := hb24.keep0 k47
 replace hB := hB.trans k47
 refine sw_g (g_mv rfl) rfl (sw_g (g_fold (j := 2) (g_quo rfl rfl (by decide)) (by decide)) rfl ?_)
 refine sw_g (g_ixa Try.underlying104 ty24 rfl rfl (by decide)) rfl ?_
 refine sw_g (g_ldb sc24 rfl hb24 rfl) rfl ?_
 refine sw_g (g_mv rfl) rfl (sw_g (g_mv rfl) rfl (sw_g (g_ix Try.underlying22 ty5 rfl (by first | assumption | exact Own.rd ‹_› | exact Rd.keep0 ‹_› hB | exact Own.rd (Own.keep0 ‹_› hB)) rfl (by omega)) rfl ?_))
 refine sw_g (g_ldB sc5 rfl (by first | assumption | exact Own.rd ‹_› | exact Rd.keep0 ‹_› hB | exact Own.rd (Own.keep0 ‹_› hB)) (by omega)) rfl ?_
 refine sw_gx (e' := (gb xs (22))) (lo := 0) (hi := 255) (g_cv (by rw [Try.underlying5]; rfl) Try.underlying24 rfl) (wrap_fit (gb_range xs (22)) rfl) ((gb_range xs (22))) rfl (fun z91 h67 r67 => ?_)
 refine sw_g (g_mv rfl) rfl (sw_g (g_fold (j := 6) (g_rem rfl rfl (by decide)) (by decide)) rfl ?_)
 refine sw_g (g_fold (j := 48) (g_mulw rfl rfl) (by decide)) rfl ?_
 refine sw_gx (e' := z91 * 281474976710656) (lo := 0) (hi := 71776119061217280) (g_shlp (m := 281474976710656) rfl rfl (by decide) rfl) (wrap_fit (in_mulc r67 (by decide)) rfl) (In.wk (in_mulc r67 (by decide)) rfl) rfl (fun z92 h68 r68 => ?_)
 refine sw_gx (e' := z89 + z92) (lo := 0) (hi := 72057594037927935) (g_or rfl rfl) (or_join' 48 (m := 281474976710656) r68 rfl r66 rfl rfl rfl rfl (eq_mod h68 (Int.mul_emod_left _ _)) rfl rfl) (In.wk (in_add r66 r68) rfl) rfl (fun z93 h69 r69 => ?_)
 refine sw_nil ?_
 refine ow_g (g_ixa Try.underlying104 ty24 rfl rfl (by decide)) rfl ?_
 refine ow_d0 (d_st ty24 rfl rfl rfl hb24 rfl) ?_
 rintro _ w48 ⟨hb25, k48, z94⟩
 replace hb1 := hb1.keep k48 (fun hm => absurd (List.mem_singleton.1 hm) ne_b1_b2)
 replace hB := hB.new k48 (fun x hx => .inl ((List.mem_singleton.1 hx) ▸ ge_b2))
 clear z94
 replace hb25 : Bk w48 b2 _ [.int .u64 z33, .int .u64 z65, .int .u64 z93, .int .u64 0] := hb25
 refine ow_nil (tw_keep [(0, _), (2, _), (3, _), (6, _)] ⟨rfl, rfl, rfl, rfl, trivial⟩ ?_)
 refine tw_b (tw_region (ow_g (g_fold (j := 23) (g_addw rfl rfl) (by decide)) rfl ?_))
 refine ow_g (g_mv rfl) rfl (ow_nil (tw_lp (tw_seq (tw_region (ow_g (g_lt rfl rfl) rfl ?_)))))
 refine ow_nil (tw_seq (tw_ifT rfl (by decide) ?_))
 refine tw_skip (tw_seq (tw_block (tw_seq (tw_region (ow_g (g_mv rfl) rfl (ow_g (g_as rfl) rfl ?_))))))
 refine ow_nil (tw_still 14 mixed (by decide +kernel) (fun w49 k49 => ?_))
 replace hb1 := hb1.keep0 k49
 replace hb25 := hb25.keep0 k49
 replace hB := hB.trans k49
 refine sw_g (g_mv rfl) rfl (sw_g (g_fold (j := 2) (g_quo rfl rfl (by decide)) (by decide)) rfl ?_)
 refine sw_g (g_ixa Try.underlying104 ty24 rfl rfl (by decide)) rfl ?_
 refine sw_g (g_ldb sc24 rfl hb25 rfl) rfl ?_
 refine sw_g (g_mv rfl) rfl (sw_g (g_mv rfl) rfl (sw_g (g_ix Try.underlying22 ty5 rfl (by first | assumption | exact Own.rd ‹_› | exact Rd.keep0 ‹_› hB | exact Own.rd (Own.keep0 ‹_› hB)) rfl (by omega)) rfl ?_))
 refine sw_g (g_ldB sc5 rfl (by first | assumption | exact Own.rd ‹_› | exact Rd.keep0 ‹_› hB | exact Own.rd (Own.keep0 ‹_› hB)) (by omega)) rfl ?_
 refine sw_gx (e' := (gb xs (23))) (lo := 0) (hi := 255) (g_cv (by rw [Try.underlying5]; rfl) Try.underlying24 rfl) (wrap_fit (gb_range xs (23)) rfl) ((gb_range xs (23))) rfl (fun z95 h70 r70 => ?_)
 refine sw_g (g_mv rfl) rfl (sw_g (g_fold (j := 7) (g_rem rfl rfl (by decide)) (by decide)) rfl ?_)
 refine sw_g (g_fold (j := 56) (g_mulw rfl rfl) (by decide)) rfl ?_
 refine sw_gx (e' := z95 * 72057594037927936) (lo := 0) (hi := 18374686479671623680) (g_shlp (m := 72057594037927936) rfl rfl (by decide) rfl) (wrap_fit (in_mulc r70 (by decide)) rfl) (In.wk (in_mulc r70 (by decide)) rfl) rfl (fun z96 h71 r71 => ?_)
 refine sw_gx (e' := z93 + z96) (lo := 0) (hi := 18446744073709551615) (g_or rfl rfl) (or_join' 56 (m := 72057594037927936) r71 rfl r69 rfl rfl rfl rfl (eq_mod h71 (Int.mul_emod_left _ _)) rfl rfl) (In.wk (in_add r69 r71) rfl) rfl (fun z97 h72 r72 => ?_)
 refine sw_nil ?_
 refine ow_g (g_ixa Try.underlying104 ty24 rfl rfl (by decide)) rfl ?_
 refine ow_d0 (d_st ty24 rfl rfl rfl hb25 rfl) ?_
 rintro _ w50 ⟨hb26, k50, z98⟩
 replace hb1 := hb1.keep k50 (fun hm => absurd (List.mem_singleton.1 hm) ne_b1_b2)
 replace hB := hB.new k50 (fun x hx => .inl ((List.mem_singleton.1 hx) ▸ ge_b2))
 clear z98
 replace hb26 : Bk w50 b2 _ [.int .u64 z33, .int .u64 z65, .int .u64 z97, .int .u64 0] := hb26
 refine ow_nil (tw_keep [(0, _), (2, _), (3, _), (6, _)] ⟨rfl, rfl, rfl, rfl, trivial⟩ ?_)
 refine tw_b (tw_region (ow_g (g_fold (j := 24) (g_addw rfl rfl) (by decide)) rfl ?_))
 refine ow_g (g_mv rfl) rfl (ow_nil (tw_lp (tw_seq (tw_region (ow_g (g_lt rfl rfl) rfl ?_)))))
 refine ow_nil (tw_seq (tw_ifT rfl (by decide) ?_))
 refine tw_skip (tw_seq (tw_block (tw_seq (tw_region (ow_g (g_mv rfl) rfl (ow_g (g_as rfl) rfl ?_))))))
 refine ow_nil (tw_still 14 mixed (by decide +kernel) (fun w51 k51 => ?_))
 replace hb1 := hb1.keep0 k51
 replace hb26 := hb26.keep0 k51
 replace hB := hB.trans k51
 refine sw_g (g_mv rfl) rfl (sw_g (g_fold (j := 3) (g_quo rfl rfl (by decide)) (by decide)) rfl ?_)
 refine sw_g (g_ixa Try.underlying104 ty24 rfl rfl (by decide)) rfl ?_
 refine sw_g (g_ldb sc24 rfl hb26 rfl) rfl ?_
 refine sw_g (g_mv rfl) rfl (sw_g (g_mv rfl) rfl (sw_g (g_ix Try.underlying22 ty5 rfl (by first | assumption | exact Own.rd ‹_› | exact Rd.keep0 ‹_› hB | exact Own.rd (Own.keep0 ‹_› hB)) rfl (by omega)) rfl ?_))
 refine sw_g (g_ldB sc5 rfl (by first | assumption | exact Own.rd ‹_› | exact Rd.keep0 ‹_› hB | exact Own.rd (Own.keep0 ‹_› hB)) (by omega)) rfl ?_
 refine sw_gx (e' := (gb xs (24))) (lo := 0) (hi := 255) (g_cv (by rw [Try.underlying5]; rfl) Try.underlying24 rfl) (wrap_fit (gb_range xs (24)) rfl) ((gb_range xs (24))) rfl (fun z99 h73 r73 => ?_)
 refine sw_g (g_mv rfl) rfl (sw_g (g_fold (j := 0) (g_rem rfl rfl (by decide)) (by decide)) rfl ?_)
 refine sw_g (g_fold (j := 0) (g_mulw rfl rfl) (by decide)) rfl ?_
 refine sw_gx (e' := z99 * 1) (lo := 0) (hi := 255) (g_shlp (m := 1) rfl rfl (by decide) rfl) (wrap_fit (in_mulc r73 (by decide)) rfl) (In.wk (in_mulc r73 (by decide)) rfl) rfl (fun z100 h74 r74 => ?_)
 refine sw_gx (e' := z100) (lo := 0) (hi := 255) (g_or rfl rfl) (zero_or rfl r74 rfl rfl) (r74) rfl (fun z101 h75 r75 => ?_)
 refine sw_nil ?_
 refine ow_g (g_ixa Try.underlying104 ty24 rfl rfl (by decide)) rfl ?_
 refine ow_d0 (d_st ty24 rfl rfl rfl hb26 rfl) ?_
 rintro _ w52 ⟨hb27, k52, z102⟩
 replace hb1 := hb1.keep k52 (fun hm => absurd (List.mem_singleton.1 hm) ne_b1_b2)
 replace hB := hB.new k52 (fun x hx => .inl ((List.mem_singleton.1 hx) ▸ ge_b2))
 clear z102
 replace hb27 : Bk w52 b2 _ [.int .u64 z33, .int .u64 z65, .int .u64 z97, .int .u64 z101] := hb27
 refine ow_nil (tw_keep [(0, _), (2, _), (3, _), (6, _)] ⟨rfl, rfl, rfl, rfl, trivial⟩ ?_)
 refine tw_b (tw_region (ow_g (g_fold (j := 25) (g_addw rfl rfl) (by decide)) rfl ?_))
 refine ow_g (g_mv rfl) rfl (ow_nil (tw_lp (tw_seq (tw_region (ow_g (g_lt rfl rfl) rfl ?_)))))
 refine ow_nil (tw_seq (tw_ifT rfl (by decide) ?_))
 refine tw_skip (tw_seq (tw_block (tw_seq (tw_region (ow_g (g_mv rfl) rfl (ow_g (g_as rfl) rfl ?_))))))
 refine ow_nil (tw_still 14 mixed (by decide +kernel) (fun w53 k53 => ?_))
 replace hb1 := hb1.keep0 k53
 replace hb27 := hb27.keep0 k53
 replace hB := hB.trans k53
 refine sw_g (g_mv rfl) rfl (sw_g (g_fold (j := 3) (g_quo rfl rfl (by decide)) (by decide)) rfl ?_)
 refine sw_g (g_ixa Try.underlying104 ty24 rfl rfl (by decide)) rfl ?_
 refine sw_g (g_ldb sc24 rfl hb27 rfl) rfl ?_
 refine sw_g (g_mv rfl) rfl (sw_g (g_mv rfl) rfl (sw_g (g_ix Try.underlying22 ty5 rfl (by first | assumption | exact Own.rd ‹_› | exact Rd.keep0 ‹_› hB | exact Own.rd (Own.keep0 ‹_› hB)) rfl (by omega)) rfl ?_))
 refine sw_g (g_ldB sc5 rfl (by first | assumption | exact Own.rd ‹_› | exact Rd.keep0 ‹_› hB | exact Own.rd (Own.keep0 ‹_› hB)) (by omega)) rfl ?_
 refine sw_gx (e' := (gb xs (25))) (lo := 0) (hi := 255) (g_cv (by rw [Try.underlying5]; rfl) Try.underlying24 rfl) (wrap_fit (gb_range xs (25)) rfl) ((gb_range xs (25))) rfl (fun z103 h76 r76 => ?_)
 refine sw_g (g_mv rfl) rfl (sw_g (g_fold (j := 1) (g_rem rfl rfl (by decide)) (by decide)) rfl ?_)
 refine sw_g (g_fold (j := 8) (g_mulw rfl rfl) (by decide)) rfl ?_
 refine sw_gx (e' := z103 * 256) (lo := 0) (hi := 65280) (g_shlp (m := 256) rfl rfl (by decide) rfl) (wrap_fit (in_mulc r76 (by decide)) rfl) (In.wk (in_mulc r76 (by decide)) rfl) rfl (fun z104 h77 r77 => ?_)
 refine sw_gx (e' := z101 + z104) (lo := 0) (hi := 65535) (g_or rfl rfl) (or_join' 8 (m := 256) r77 rfl r75 rfl rfl rfl rfl (eq_mod h77 (Int.mul_emod_left _ _)) rfl rfl) (In.wk (in_add r75 r77) rfl) rfl (fun z105 h78 r78 => ?_)
 refine sw_nil ?_
 refine ow_g (g_ixa Try.underlying104 ty24 rfl rfl (by decide)) rfl ?_
 refine ow_d0 (d_st ty24 rfl rfl rfl hb27 rfl) ?_
 rintro _ w54 ⟨hb28, k54, z106⟩
 replace hb1 := hb1.keep k54 (fun hm => absurd (List.mem_singleton.1 hm) ne_b1_b2)
 replace hB := hB.new k54 (fun x hx => .inl ((List.mem_singleton.1 hx) ▸ ge_b2))
 clear z106
 replace hb28 : Bk w54 b2 _ [.int .u64 z33, .int .u64 z65, .int .u64 z97, .int .u64 z105] := hb28
 refine ow_nil (tw_keep [(0, _), (2, _), (3, _), (6, _)] ⟨rfl, rfl, rfl, rfl, trivial⟩ ?_)
 refine tw_b (tw_region (ow_g (g_fold (j := 26) (g_addw rfl rfl) (by decide)) rfl ?_))
 refine ow_g (g_mv rfl) rfl (ow_nil (tw_lp (tw_seq (tw_region (ow_g (g_lt rfl rfl) rfl ?_)))))
 refine ow_nil (tw_seq (tw_ifT rfl (by decide) ?_))
 refine tw_skip (tw_seq (tw_block (tw_seq (tw_region (ow_g (g_mv rfl) rfl (ow_g (g_as rfl) rfl ?_))))))
 refine ow_nil (tw_still 14 mixed (by decide +kernel) (fun w55 k55 => ?_))
 replace hb1 := hb1.keep0 k55
 replace hb28 := hb28.keep0 k55
 replace hB := hB.trans k55
 refine sw_g (g_mv rfl) rfl (sw_g (g_fold (j := 3) (g_quo rfl rfl (by decide)) (by decide)) rfl ?_)
 refine sw_g (g_ixa Try.underlying104 ty24 rfl rfl (by decide)) rfl ?_
 refine sw_g (g_ldb sc24 rfl hb28 rfl) rfl ?_
 refine sw_g (g_mv rfl) rfl (sw_g (g_mv rfl) rfl (sw_g (g_ix Try.underlying22 ty5 rfl (by first | assumption | exact Own.rd ‹_› | exact Rd.keep0 ‹_› hB | exact Own.rd (Own.keep0 ‹_› hB)) rfl (by omega)) rfl ?_))
 refine sw_g (g_ldB sc5 rfl (by first | assumption | exact Own.rd ‹_› | exact Rd.keep0 ‹_› hB | exact Own.rd (Own.keep0 ‹_› hB)) (by omega)) rfl ?_
 refine sw_gx (e' := (gb xs (26))) (lo := 0) (hi := 255) (g_cv (by rw [Try.underlying5]; rfl) Try.underlying24 rfl) (wrap_fit (gb_range xs (26)) rfl) ((gb_range xs (26))) rfl (fun z107 h79 r79 => ?_)
 refine sw_g (g_mv rfl) rfl (sw_g (g_fold (j := 2) (g_rem rfl rfl (by decide)) (by decide)) rfl ?_)
 refine sw_g (g_fold (j := 16) (g_mulw rfl rfl) (by decide)) rfl ?_
 refine sw_gx (e' := z107 * 65536) (lo := 0) (hi := 16711680) (g_shlp (m := 65536) rfl rfl (by decide) rfl) (wrap_fit (in_mulc r79 (by decide)) rfl) (In.wk (in_mulc r79 (by decide)) rfl) rfl (fun z108 h80 r80 => ?_)
 refine sw_gx (e' := z105 + z108) (lo := 0) (hi := 16777215) (g_or rfl rfl) (or_join' 16 (m := 65536) r80 rfl r78 rfl rfl rfl rfl (eq_mod h80 (Int.mul_emod_left _ _)) rfl rfl) (In.wk (in_add r78 r80) rfl) rfl (fun z109 h81 r81 => ?_)
 refine sw_nil ?_
 refine ow_g (g_ixa Try.underlying104 ty24 rfl rfl (by decide)) rfl ?_
 refine ow_d0 (d_st ty24 rfl rfl rfl hb28 rfl) ?_
 rintro _ w56 ⟨hb29, k56, z110⟩
 replace hb1 := hb1.keep k56 (fun hm => absurd (List.mem_singleton.1 hm) ne_b1_b2)
 replace hB := hB.new k56 (fun x hx => .inl ((List.mem_singleton.1 hx) ▸ ge_b2))
 clear z110
 replace hb29 : Bk w56 b2 _ [.int .u64 z33, .int .u64 z65, .int .u64 z97, .int .u64 z109] := hb29
 refine ow_nil (tw_keep [(0, _), (2, _), (3, _), (6, _)] ⟨rfl, rfl, rfl, rfl, trivial⟩ ?_)
 refine tw_b (tw_region (ow_g (g_fold (j := 27) (g_addw rfl rfl) (by decide)) rfl ?_))
 refine ow_g (g_mv rfl) rfl (ow_nil (tw_lp (tw_seq (tw_region (ow_g (g_lt rfl rfl) rfl ?_)))))
 refine ow_nil (tw_seq (tw_ifT rfl (by decide) ?_))
 refine tw_skip (tw_seq (tw_block (tw_seq (tw_region (ow_g (g_mv rfl) rfl (ow_g (g_as rfl) rfl ?_))))))
 refine ow_nil (tw_still 14 mixed (by decide +kernel) (fun w57 k57 => ?_))
 replace hb1 := hb1.keep0 k57
 replace hb29 := hb29.keep0 k57
 replace hB := hB.trans k57
 refine sw_g (g_mv rfl) rfl (sw_g (g_fold (j := 3) (g_quo rfl rfl (by decide)) (by decide)) rfl ?_)
 refine sw_g (g_ixa Try.underlying104 ty24 rfl rfl (by decide)) rfl ?_
 refine sw_g (g_ldb sc24 rfl hb29 rfl) rfl ?_
 refine sw_g (g_mv rfl) rfl (sw_g (g_mv rfl) rfl (sw_g (g_ix Try.underlying22 ty5 rfl (by first | assumption | exact Own.rd ‹_› | exact Rd.keep0 ‹_› hB | exact Own.rd (Own.keep0 ‹_› hB)) rfl (by omega)) rfl ?_))
 refine sw_g (g_ldB sc5 rfl (by first | assumption | exact Own.rd ‹_› | exact Rd.keep0 ‹_› hB | exact Own.rd (Own.keep0 ‹_› hB)) (by omega)) rfl ?_
 refine sw_gx (e' := (gb xs (27))) (lo := 0) (hi := 255) (g_cv (by rw [Try.underlying5]; rfl) Try.underlying24 rfl) (wrap_fit (gb_range xs (27)) rfl) ((gb_range xs (27))) rfl (fun z111 h82 r82 => ?_)
 refine sw_g (g_mv rfl) rfl (sw_g (g_fold (j := 3) (g_rem rfl rfl (by decide)) (by decide)) rfl ?_)
 refine sw_g (g_fold (j := 24) (g_mulw rfl rfl) (by decide)) rfl ?_
 refine sw_gx (e' := z111 * 16777216) (lo := 0) (hi := 4278190080) (g_shlp (m := 16777216) rfl rfl (by decide) rfl) (wrap_fit (in_mulc r82 (by decide)) rfl) (In.wk (in_mulc r82 (by decide)) rfl) rfl (fun z112 h83 r83 => ?_)
 refine sw_gx (e' := z109 + z112) (lo := 0) (hi := 4294967295) (g_or rfl rfl) (or_join' 24 (m := 16777216) r83 rfl r81 rfl rfl rfl rfl (eq_mod h83 (Int.mul_emod_left _ _)) rfl rfl) (In.wk (in_add r81 r83) rfl) rfl (fun z113 h84 r84 => ?_)
 refine sw_nil ?_
 refine ow_g (g_ixa Try.underlying104 ty24 rfl rfl (by decide)) rfl ?_
 refine ow_d0 (d_st ty24 rfl rfl rfl hb29 rfl) ?_
 rintro _ w58 ⟨hb30, k58, z114⟩
 replace hb1 := hb1.keep k58 (fun hm => absurd (List.mem_singleton.1 hm) ne_b1_b2)
 replace hB := hB.new k58 (fun x hx => .inl ((List.mem_singleton.1 hx) ▸ ge_b2))
 clear z114
 replace hb30 : Bk w58 b2 _ [.int .u64 z33, .int .u64 z65, .int .u64 z97, .int .u64 z113] := hb30
 refine ow_nil (tw_keep [(0, _), (2, _), (3, _), (6, _)] ⟨rfl, rfl, rfl, rfl, trivial⟩ ?_)
 refine tw_b (tw_region (ow_g (g_fold (j := 28) (g_addw rfl rfl) (by decide)) rfl ?_))
 refine ow_g (g_mv rfl) rfl (ow_nil (tw_lp (tw_seq (tw_region (ow_g (g_lt rfl rfl) rfl ?_)))))
 refine ow_nil (tw_seq (tw_ifT rfl (by decide) ?_))
 refine tw_skip (tw_seq (tw_block (tw_seq (tw_region (ow_g (g_mv rfl) rfl (ow_g (g_as rfl) rfl ?_))))))
 refine ow_nil (tw_still 14 mixed (by decide +kernel) (fun w59 k59 => ?_))
 replace hb1 := hb1.keep0 k59
 replace hb30 := hb30.keep0 k59
 replace hB := hB.trans k59
 refine sw_g (g_mv rfl) rfl (sw_g (g_fold (j := 3) (g_quo rfl rfl (by decide)) (by decide)) rfl ?_)
 refine sw_g (g_ixa Try.underlying104 ty24 rfl rfl (by decide)) rfl ?_
 refine sw_g (g_ldb sc24 rfl hb30 rfl) rfl ?_
 refine sw_g (g_mv rfl) rfl (sw_g (g_mv rfl) rfl (sw_g (g_ix Try.underlying22 ty5 rfl (by first | assumption | exact Own.rd ‹_› | exact Rd.keep0 ‹_› hB | exact Own.rd (Own.keep0 ‹_› hB)) rfl (by omega)) rfl ?_))
 refine sw_g (g_ldB sc5 rfl (by first | assumption | exact Own.rd ‹_› | exact Rd.keep0 ‹_› hB | exact Own.rd (Own.keep0 ‹_› hB)) (by omega)) rfl ?_
 refine sw_gx (e' := (gb xs (28))) (lo := 0) (hi := 255) (g_cv (by rw [Try.underlying5]; rfl) Try.underlying24 rfl) (wrap_fit (gb_range xs (28)) rfl) ((gb_range xs (28))) rfl (fun z115 h85 r85 => ?_)
 refine sw_g (g_mv rfl) rfl (sw_g (g_fold (j := 4) (g_rem rfl rfl (by decide)) (by decide)) rfl ?_)
 refine sw_g (g_fold (j := 32) (g_mulw rfl rfl) (by decide)) rfl ?_
 refine sw_gx (e' := z115 * 4294967296) (lo := 0) (hi := 1095216660480) (g_shlp (m := 4294967296) rfl rfl (by decide) rfl) (wrap_fit (in_mulc r85 (by decide)) rfl) (In.wk (in_mulc r85 (by decide)) rfl) rfl (fun z116 h86 r86 => ?_)
 refine sw_gx (e' := z113 + z116) (lo := 0) (hi := 1099511627775) (g_or rfl rfl) (or_join' 32 (m := 4294967296) r86 rfl r84 rfl rfl rfl rfl (eq_mod h86 (Int.mul_emod_left _ _)) rfl rfl) (In.wk (in_add r84 r86) rfl) rfl (fun z117 h87 r87 => ?_)
 refine sw_nil ?_
 refine ow_g (g_ixa Try.underlying104 ty24 rfl rfl (by decide)) rfl ?_
 refine ow_d0 (d_st ty24 rfl rfl rfl hb30 rfl) ?_
 rintro _ w60 ⟨hb31, k60, z118⟩
 replace hb1 := hb1.keep k60 (fun hm => absurd (List.mem_singleton.1 hm) ne_b1_b2)
 replace hB := hB.new k60 (fun x hx => .inl ((List.mem_singleton.1 hx) ▸ ge_b2))
 clear z118
 replace hb31 : Bk w60 b2 _ [.int .u64 z33, .int .u64 z65, .int .u64 z97, .int .u64 z117] := hb31
 refine ow_nil (tw_keep [(0, _), (2, _), (3, _), (6, _)] ⟨rfl, rfl, rfl, rfl, trivial⟩ ?_)
 refine tw_b (tw_region (ow_g (g_fold (j := 29) (g_addw rfl rfl) (by decide)) rfl ?_))
 refine ow_g (g_mv rfl) rfl (ow_nil (tw_lp (tw_seq (tw_region (ow_g (g_lt rfl rfl) rfl ?_)))))
 refine ow_nil (tw_seq (tw_ifT rfl (by decide) ?_))
 refine tw_skip (tw_seq (tw_block (tw_seq (tw_region (ow_g (g_mv rfl) rfl (ow_g (g_as rfl) rfl ?_))))))
 refine ow_nil (tw_still 14 mixed (by decide +kernel) (fun w61 k61 => ?_))
 replace hb1 := hb1.keep0 k61
 replace hb31 := hb31.keep0 k61
 replace hB := hB.trans k61
 refine sw_g (g_mv rfl) rfl (sw_g (g_fold (j := 3) (g_quo rfl rfl (by decide)) (by decide)) rfl ?_)
 refine sw_g (g_ixa Try.underlying104 ty24 rfl rfl (by decide)) rfl ?_
 refine sw_g (g_ldb sc24 rfl hb31 rfl) rfl ?_
 refine sw_g (g_mv rfl) rfl (sw_g (g_mv rfl) rfl (sw_g (g_ix Try.underlying22 ty5 rfl (by first | assumption | exact Own.rd ‹_› | exact Rd.keep0 ‹_› hB | exact Own.rd (Own.keep0 ‹_› hB)) rfl (by omega)) rfl ?_))
 refine sw_g (g_ldB sc5 rfl (by first | assumption | exact Own.rd ‹_› | exact Rd.keep0 ‹_› hB | exact Own.rd (Own.keep0 ‹_› hB)) (by omega)) rfl ?_
 refine sw_gx (e' := (gb xs (29))) (lo := 0) (hi := 255) (g_cv (by rw [Try.underlying5]; rfl) Try.underlying24 rfl) (wrap_fit (gb_range xs (29)) rfl) ((gb_range xs (29))) rfl (fun z119 h88 r88 => ?_)
 refine sw_g (g_mv rfl) rfl (sw_g (g_fold (j := 5) (g_rem rfl rfl (by decide)) (by decide)) rfl ?_)
 refine sw_g (g_fold (j := 40) (g_mulw rfl rfl) (by decide)) rfl ?_
 refine sw_gx (e' := z119 * 1099511627776) (lo := 0) (hi := 280375465082880) (g_shlp (m := 1099511627776) rfl rfl (by decide) rfl) (wrap_fit (in_mulc r88 (by decide)) rfl) (In.wk (in_mulc r88 (by decide)) rfl) rfl (fun z120 h89 r89 => ?_)
 refine sw_gx (e' := z117 + z120) (lo := 0) (hi := 281474976710655) (g_or rfl rfl) (or_join' 40 (m := 1099511627776) r89 rfl r87 rfl rfl rfl rfl (eq_mod h89 (Int.mul_emod_left _ _)) rfl rfl) (In.wk (in_add r87 r89) rfl) rfl (fun z121 h90 r90 => ?_)
 refine sw_nil ?_
 refine ow_g (g_ixa Try.underlying104 ty24 rfl rfl (by decide)) rfl ?_
 refine ow_d0 (d_st ty24 rfl rfl rfl hb31 rfl) ?_
 rintro _ w62 ⟨hb32, k62, z122⟩
 replace hb1 := hb1.keep k62 (fun hm => absurd (List.mem_singleton.1 hm) ne_b1_b2)
 replace hB := hB.new k62 (fun x hx => .inl ((List.mem_singleton.1 hx) ▸ ge_b2))
 clear z122
 replace hb32 : Bk w62 b2 _ [.int .u64 z33, .int .u64 z65, .int .u64 z97, .int .u64 z121] := hb32
 refine ow_nil (tw_keep [(0, _), (2, _), (3, _), (6, _)] ⟨rfl, rfl, rfl, rfl, trivial⟩ ?_)
 refine tw_b (tw_region (ow_g (g_fold (j := 30) (g_addw rfl rfl) (by decide)) rfl ?_))
 refine ow_g (g_mv rfl) rfl (ow_nil (tw_lp (tw_seq (tw_region (ow_g (g_lt rfl rfl) rfl ?_)))))
 refine ow_nil (tw_seq (tw_ifT rfl (by decide) ?_))
 refine tw_skip (tw_seq (tw_block (tw_seq (tw_region (ow_g (g_mv rfl) rfl (ow_g (g_as rfl) rfl ?_))))))
 refine ow_nil (tw_still 14 mixed (by decide +kernel) (fun w63 k63 => ?_))
 replace hb1 := hb1.keep0 k63
 replace hb32 := hb32.keep0 k63
 replace hB := hB.trans k63
 refine sw_g (g_mv rfl) rfl (sw_g (g_fold (j := 3) (g_quo rfl rfl (by decide)) (by decide)) rfl ?_)
 refine sw_g (g_ixa Try.underlying104 ty24 rfl rfl (by decide)) rfl ?_
 refine sw_g (g_ldb sc24 rfl hb32 rfl) rfl ?_
 refine sw_g (g_mv rfl) rfl (sw_g (g_mv rfl) rfl (sw_g (g_ix Try.underlying22 ty5 rfl (by first | assumption | exact Own.rd ‹_› | exact Rd.keep0 ‹_› hB | exact Own.rd (Own.keep0 ‹_› hB)) rfl (by omega)) rfl ?_))
 refine sw_g (g_ldB sc5 rfl (by first | assumption | exact Own.rd ‹_› | exact Rd.keep0 ‹_› hB | exact Own.rd (Own.keep0 ‹_› hB)) (by omega)) rfl ?_
 refine sw_gx (e' := (gb xs (30))) (lo := 0) (hi := 255) (g_cv (by rw [Try.underlying5]; rfl) Try.underlying24 rfl) (wrap_fit (gb_range xs (30)) rfl) ((gb_range xs (30))) rfl (fun z123 h91 r91 => ?_)
 refine sw_g (g_mv rfl) rfl (sw_g (g_fold (j := 6) (g_rem rfl rfl (by decide)) (by decide)) rfl ?_)
 refine sw_g (g_fold (j := 48) (g_mulw rfl rfl) (by decide)) rfl ?_
 refine sw_gx (e' := z123 * 281474976710656) (lo := 0) (hi := 71776119061217280) (g_shlp (m := 281474976710656) rfl rfl (by decide) rfl) (wrap_fit (in_mulc r91 (by decide)) rfl) (In.wk (in_mulc r91 (by decide)) rfl) rfl (fun z124 h92 r92 => ?_)
 refine sw_gx (e' := z121 + z124) (lo := 0) (hi := 72057594037927935) (g_or rfl rfl) (or_join' 48 (m := 281474976710656) r92 rfl r90 rfl rfl rfl rfl (eq_mod h92 (Int.mul_emod_left _ _)) rfl rfl) (In.wk (in_add r90 r92) rfl) rfl (fun z125 h93 r93 => ?_)
 refine sw_nil ?_
 refine ow_g (g_ixa Try.underlying104 ty24 rfl rfl (by decide)) rfl ?_
 refine ow_d0 (d_st ty24 rfl rfl rfl hb32 rfl) ?_
 rintro _ w64 ⟨hb33, k64, z126⟩
 replace hb1 := hb1.keep k64 (fun hm => absurd (List.mem_singleton.1 hm) ne_b1_b2)
 replace hB := hB.new k64 (fun x hx => .inl ((List.mem_singleton.1 hx) ▸ ge_b2))
 clear z126
 replace hb33 : Bk w64 b2 _ [.int .u64 z33, .int .u64 z65, .int .u64 z97, .int .u64 z125] := hb33
 refine ow_nil (tw_keep [(0, _), (2, _), (3, _), (6, _)] ⟨rfl, rfl, rfl, rfl, trivial⟩ ?_)
 refine tw_b (tw_region (ow_g (g_fold (j := 31) (g_addw rfl rfl) (by decide)) rfl ?_))
 refine ow_g (g_mv rfl) rfl (ow_nil (tw_lp (tw_seq (tw_region (ow_g (g_lt rfl rfl) rfl ?_)))))
 refine ow_nil (tw_seq (tw_ifT rfl (by decide) ?_))
 refine tw_skip (tw_seq (tw_block (tw_seq (tw_region (ow_g (g_mv rfl) rfl (ow_g (g_as rfl) rfl ?_))))))
 refine ow_nil (tw_still 14 mixed (by decide +kernel) (fun w65 k65 => ?_))
 replace hb1 := hb1.keep0 k65
 replace hb33 := hb33.keep0 k65
 replace hB := hB.trans k65
 refine sw_g (g_mv rfl) rfl (sw_g (g_fold (j := 3) (g_quo rfl rfl (by decide)) (by decide)) rfl ?_)
 refine sw_g (g_ixa Try.underlying104 ty24 rfl rfl (by decide)) rfl ?_
 refine sw_g (g_ldb sc24 rfl hb33 rfl) rfl ?_
 refine sw_g (g_mv rfl) rfl (sw_g (g_mv rfl) rfl (sw_g (g_ix Try.underlying22 ty5 rfl (by first | assumption | exact Own.rd ‹_› | exact Rd.keep0 ‹_› hB | exact Own.rd (Own.keep0 ‹_› hB)) rfl (by omega)) rfl ?_))
 refine sw_g (g_ldB sc5 rfl (by first | assumption | exact Own.rd ‹_› | exact Rd.keep0 ‹_› hB | exact Own.rd (Own.keep0 ‹_› hB)) (by omega)) rfl ?_
 refine sw_gx (e' := (gb xs (31))) (lo := 0) (hi := 255) (g_cv (by rw [Try.underlying5]; rfl) Try.underlying24 rfl) (wrap_fit (gb_range xs (31)) rfl) ((gb_range xs (31))) rfl (fun z127 h94 r94 => ?_)
 refine sw_g (g_mv rfl) rfl (sw_g (g_fold (j := 7) (g_rem rfl rfl (by decide)) (by decide)) rfl ?_)
 refine sw_g (g_fold (j := 56) (g_mulw rfl rfl) (by decide)) rfl ?_
 refine sw_gx (e' := z127 * 72057594037927936) (lo := 0) (hi := 18374686479671623680) (g_shlp (m := 72057594037927936) rfl rfl (by decide) rfl) (wrap_fit (in_mulc r94 (by decide)) rfl) (In.wk (in_mulc r94 (by decide)) rfl) rfl (fun z128 h95 r95 => ?_)
 refine sw_gx (e' := z125 + z128) (lo := 0) (hi := 18446744073709551615) (g_or rfl rfl) (or_join' 56 (m := 72057594037927936) r95 rfl r93 rfl rfl rfl rfl (eq_mod h95 (Int.mul_emod_left _ _)) rfl rfl) (In.wk (in_add r93 r95) rfl) rfl (fun z129 h96 r96 => ?_)
 refine sw_nil ?_
 refine ow_g (g_ixa Try.underlying104 ty24 rfl rfl (by decide)) rfl ?_
 refine ow_d0 (d_st ty24 rfl rfl rfl hb33 rfl) ?_
 rintro _ w66 ⟨hb34, k66, z130⟩
 replace hb1 := hb1.keep k66 (fun hm => absurd (List.mem_singleton.1 hm) ne_b1_b2)
 replace hB := hB.new k66 (fun x hx => .inl ((List.mem_singleton.1 hx) ▸ ge_b2))
 clear z130
 replace hb34 : Bk w66 b2 _ [.int .u64 z33, .int .u64 z65, .int .u64 z97, .int .u64 z129] := hb34
 refine ow_nil (tw_keep [(0, _), (2, _), (3, _), (6, _)] ⟨rfl, rfl, rfl, rfl, trivial⟩ ?_)
 refine tw_b (tw_region (ow_g (g_fold (j := 32) (g_addw rfl rfl) (by decide)) rfl ?_))
 refine ow_g (g_mv rfl) rfl (ow_nil (tw_lp (tw_seq (tw_region (ow_g (g_lt rfl rfl) rfl ?_)))))
 refine ow_nil (tw_seq (tw_ifF rfl (by decide) ?_))
 refine tw_exit rfl ?_
 refine tw_seq (tw_region (ow_g (g_ixa Try.underlying104 ty24 rfl rfl (by decide)) rfl ?_))
 refine ow_g (g_ldb sc24 rfl hb34 rfl) rfl ?_
 refine ow_gx (e' := z33 % 2251799813685248) (lo := 0) (hi := 2251799813685247) (g_and rfl rfl) (and_mod 51 r24 rfl rfl rfl rfl rfl rfl) (In.wk (in_mod _ (by decide)) rfl) rfl (fun z131 h97 r97 => ?_)
 refine ow_g (g_ixa Try.underlying104 ty24 rfl rfl (by decide)) rfl ?_
 refine ow_g (g_ldb sc24 rfl hb34 rfl) rfl ?_
 refine ow_gx (e' := z33 / 2251799813685248) (lo := 0) (hi := 8191) (g_shrp (m := 2251799813685248) rfl rfl (by decide) rfl) (rfl) (In.wk (in_div r24 (by decide)) rfl) rfl (fun z132 h98 r98 => ?_)
 refine ow_g (g_ixa Try.underlying104 ty24 rfl rfl (by decide)) rfl ?_
 refine ow_g (g_ldb sc24 rfl hb34 rfl) rfl ?_
 refine ow_gx (e' := (z65 * 8192) % 18446744073709551616) (lo := 0) (hi := 18446744073709551615) (g_shlp (m := 8192) rfl rfl (by decide) rfl) (wrap_uns rfl _) (In.wk (in_mod _ (by decide)) rfl) rfl (fun z133 h99 r99 => ?_)
 refine ow_gx (e' := z132 + z133) (lo := 0) (hi := 18446744073709551615) (g_or rfl rfl) (or_join' 13 (m := 8192) r99 rfl r98 rfl rfl rfl rfl (eq_mod h99 (mul_mod_mod _ (by decide))) rfl rfl) (In.wk (or_in (k := .u64) rfl (or_join' 13 (m := 8192) r99 rfl r98 rfl rfl rfl rfl (eq_mod h99 (mul_mod_mod _ (by decide))) rfl rfl)) rfl) rfl (fun z134 h100 r100 => ?_)
 refine ow_gx (e' := z134 % 2251799813685248) (lo := 0) (hi := 2251799813685247) (g_and rfl rfl) (and_mod 51 r100 rfl rfl rfl rfl rfl rfl) (In.wk (in_mod _ (by decide)) rfl) rfl (fun z135 h101 r101 => ?_)
 refine ow_g (g_ixa Try.underlying104 ty24 rfl rfl (by decide)) rfl ?_
 refine ow_g (g_ldb sc24 rfl hb34 rfl) rfl ?_
 refine ow_gx (e' := z65 / 274877906944) (lo := 0) (hi := 67108863) (g_shrp (m := 274877906944) rfl rfl (by decide) rfl) (rfl) (In.wk (in_div r48 (by decide)) rfl) rfl (fun z136 h102 r102 => ?_)
 refine ow_g (g_ixa Try.underlying104 ty24 rfl rfl (by decide)) rfl ?_
 refine ow_g (g_ldb sc24 rfl hb34 rfl) rfl ?_
 refine ow_gx (e' := (z97 * 67108864) % 18446744073709551616) (lo := 0) (hi := 18446744073709551615) (g_shlp (m := 67108864) rfl rfl (by decide) rfl) (wrap_uns rfl _) (In.wk (in_mod _ (by decide)) rfl) rfl (fun z137 h103 r103 => ?_)
 refine ow_gx (e' := z136 + z137) (lo := 0) (hi := 18446744073709551615) (g_or rfl rfl) (or_join' 26 (m := 67108864) r103 rfl r102 rfl rfl rfl rfl (eq_mod h103 (mul_mod_mod _ (by decide))) rfl rfl) (In.wk (or_in (k := .u64) rfl (or_join' 26 (m := 67108864) r103 rfl r102 rfl rfl rfl rfl (eq_mod h103 (mul_mod_mod _ (by decide))) rfl rfl)) rfl) rfl (fun z138 h104 r104 => ?_)
 refine ow_gx (e' := z138 % 2251799813685248) (lo := 0) (hi := 2251799813685247) (g_and rfl rfl) (and_mod 51 r104 rfl rfl rfl rfl rfl rfl) (In.wk (in_mod _ (by decide)) rfl) rfl (fun z139 h105 r105 => ?_)
 refine ow_g (g_ixa Try.underlying104 ty24 rfl rfl (by decide)) rfl ?_
 refine ow_g (g_ldb sc24 rfl hb34 rfl) rfl ?_
 refine ow_gx (e' := z97 / 33554432) (lo := 0) (hi := 549755813887) (g_shrp (m := 33554432) rfl rfl (by decide) rfl) (rfl) (In.wk (in_div r72 (by decide)) rfl) rfl (fun z140 h106 r106 => ?_)
 refine ow_g (g_ixa Try.underlying104 ty24 rfl rfl (by decide)) rfl ?_
 refine ow_g (g_ldb sc24 rfl hb34 rfl) rfl ?_
 refine ow_gx (e' := (z129 * 549755813888) % 18446744073709551616) (lo := 0) (hi := 18446744073709551615) (g_shlp (m := 549755813888) rfl rfl (by decide) rfl) (wrap_uns rfl _) (In.wk (in_mod _ (by decide)) rfl) rfl (fun z141 h107 r107 => ?_)
 refine ow_gx (e' := z140 + z141) (lo := 0) (hi := 18446744073709551615) (g_or rfl rfl) (or_join' 39 (m := 549755813888) r107 rfl r106 rfl rfl rfl rfl (eq_mod h107 (mul_mod_mod _ (by decide))) rfl rfl) (In.wk (or_in (k := .u64) rfl (or_join' 39 (m := 549755813888) r107 rfl r106 rfl rfl rfl rfl (eq_mod h107 (mul_mod_mod _ (by decide))) rfl rfl)) rfl) rfl (fun z142 h108 r108 => ?_)
 refine ow_gx (e' := z142 % 2251799813685248) (lo := 0) (hi := 2251799813685247) (g_and rfl rfl) (and_mod 51 r108 rfl rfl rfl rfl rfl rfl) (In.wk (in_mod _ (by decide)) rfl) rfl (fun z143 h109 r109 => ?_)
 refine ow_g (g_ixa Try.underlying104 ty24 rfl rfl (by decide)) rfl ?_
 refine ow_g (g_ldb sc24 rfl hb34 rfl) rfl ?_
 refine ow_gx (e' := z129 / 4096) (lo := 0) (hi := 4503599627370495) (g_shrp (m := 4096) rfl rfl (by decide) rfl) (rfl) (In.wk (in_div r96 (by decide)) rfl) rfl (fun z144 h110 r110 => ?_)
 refine ow_gx (e' := z144 % 2251799813685248) (lo := 0) (hi := 2251799813685247) (g_and rfl rfl) (and_mod 51 r110 rfl rfl rfl rfl rfl rfl) (In.wk (in_mod _ (by decide)) rfl) rfl (fun z145 h111 r111 => ?_)
 refine ow_g (g_blda (idx := [0, 1, 2, 3, 4]) (xs := [.tmp 27, .tmp 35, .tmp 43, .tmp 51, .tmp 55]) (vs := [_, _, _, _, _]) (css := [[.int .u64 z131], [.int .u64 z135], [.int .u64 z139], [.int .u64 z143], [.int .u64 z145]]) (out := [.int .u64 z131, .int .u64 z135, .int .u64 z139, .int .u64 z143, .int .u64 z145]) Try.underlying26 ty24 ty26 (arr_pls 5 1) rfl rfl ⟨rfl, rfl, rfl, rfl, rfl, trivial⟩ rfl rfl) rfl ?_
 refine ow_d (d_alloc ty26) rfl ?_
 rintro _ w67 ⟨b3, rfl, eb3, hb35, k67, z146⟩
 have ge_b3 : w.heap.size ≤ b3 := by have := hB.size; omega
 have ne_b1_b3 : b1 ≠ b3 := by have := hb1.lt; omega
 have ne_b2_b3 : b2 ≠ b3 := by have := hb34.lt; omega
 replace hb1 := hb1.keep0 k67
 replace hb34 := hb34.keep0 k67
 replace hB := hB.trans k67
 clear eb3 z146
 refine ow_d0 (d_sta ty26 rfl rfl rfl (by simp only [List.forall_mem_cons]; refine ⟨rfl, rfl, rfl, rfl, rfl, fun v hv => by cases hv⟩) hb35 rfl) ?_
 rintro _ w68 ⟨hb36, k68, z147⟩
 replace hb1 := hb1.keep k68 (fun hm => absurd (List.mem_singleton.1 hm) ne_b1_b3)
 replace hb34 := hb34.keep k68 (fun hm => absurd (List.mem_singleton.1 hm) ne_b2_b3)
 replace hB := hB.new k68 (fun x hx => .inl ((List.mem_singleton.1 hx) ▸ ge_b3))
 clear z147
 replace hb36 : Bk w68 b3 _ [.int .u64 z131, .int .u64 z135, .int .u64 z139, .int .u64 z143, .int .u64 z145] := hb36
 refine ow_nil (tw_seq (tw_region (ow_g (g_ixa Try.underlying26 ty24 rfl rfl (by decide)) rfl ?_)))
 refine ow_g (g_ldb sc24 rfl hb36 rfl) rfl ?_
 refine ow_g (g_ixa Try.underlying104 ty24 rfl rfl (by decide)) rfl ?_
 refine ow_g (g_ldb sc24 rfl hb34 rfl) rfl ?_
 refine ow_gx (e' := z129 / 9223372036854775808) (lo := 0) (hi := 1) (g_shrp (m := 9223372036854775808) rfl rfl (by decide) rfl) (rfl) (In.wk (in_div r96 (by decide)) rfl) rfl (fun z148 h112 r112 => ?_)
 refine ow_gx (e' := 19 * z148) (lo := 0) (hi := 19) (g_mulw rfl rfl) (wrap_fit (in_cmul r112 (by decide)) rfl) (In.wk (in_cmul r112 (by decide)) rfl) rfl (fun z149 h113 r113 => ?_)
 refine ow_gx (e' := z131 + z149) (lo := 0) (hi := 2251799813685266) (g_addw rfl rfl) (wrap_fit (in_add r97 r113) rfl) (In.wk (in_add r97 r113) rfl) rfl (fun z150 h114 r114 => ?_)
 refine ow_g (g_ixa Try.underlying26 ty24 rfl rfl (by decide)) rfl ?_
 refine ow_d0 (d_st ty24 rfl rfl rfl hb36 rfl) ?_
 rintro _ w69 ⟨hb37, k69, z151⟩
 replace hb1 := hb1.keep k69 (fun hm => absurd (List.mem_singleton.1 hm) ne_b1_b3)
 replace hb34 := hb34.keep k69 (fun hm => absurd (List.mem_singleton.1 hm) ne_b2_b3)
 replace hB := hB.new k69 (fun x hx => .inl ((List.mem_singleton.1 hx) ▸ ge_b3))
 clear z151
 replace hb37 : Bk w69 b3 _ [.int .u64 z150, .int .u64 z135, .int .u64 z139, .int .u64 z143, .int .u64 z145] := hb37
 refine ow_nil (tw_keep [(2, _), (5, _)] ⟨rfl, rfl, trivial⟩ ?_)
 refine tw_seq (tw_region (ow_g (g_ldab (cs' := [_, _, _, _, _]) ag26 ty26 rfl hb37 rfl rfl) rfl ?_))
 refine ow_d (d_call (vs := [_]) rfl (carry_any (vecN [z150, z135, z139, z143, z145]) (In.wk r114 rfl) (In.wk r101 rfl) (In.wk r105 rfl) (In.wk r109 rfl) (In.wk r111 rfl) _)) rfl ?_
 rintro _ w70 ⟨hh1, c01, c11, c21, c31, c41, rfl, e01, e11, e21, e31, e41, g01, g11, g21, g31, g41, gv1, k70⟩
 replace hb1 := hb1.keep0 k70
 replace hb37 := hb37.keep0 k70
 replace hB := hB.trans k70
 replace e01 : c01 = z150 / 2251799813685248 := e01
 replace e11 : c11 = (z135 + c01) / 2251799813685248 := e11
 replace e21 : c21 = (z139 + c11) / 2251799813685248 := e21
 replace e31 : c31 = (z143 + c21) / 2251799813685248 := e31
 replace e41 : c41 = (z145 + c31) / 2251799813685248 := e41
 replace g01 : hh1 0 = z150 % 2251799813685248 + 19 * c41 := g01
 replace g11 : hh1 1 = (z135 + c01) % 2251799813685248 := g11
 replace g21 : hh1 2 = (z139 + c11) % 2251799813685248 := g21
 replace g31 : hh1 3 = (z143 + c21) % 2251799813685248 := g31
 replace g41 : hh1 4 = (z145 + c31) % 2251799813685248 := g41
 replace gv1 : val5 hh1 + c41 * 57896044618658097711785492504343953926634992332820282019728792003956564819949 = z150 + z135 * 2251799813685248 + z139 * 5070602400912917605986812821504 + z143 * 11417981541647679048466287755595961091061972992 + z145 * 25711008708143844408671393477458601640355247900524685364822016 := gv1
 obtain ⟨r115, r116, r117, r118, r119⟩ := carry_bounds (t := 2251799813685266) e01 e11 e21 e31 e41 g01 g11 g21 g31 g41 (In.wk r114 rfl : In _ 0 2251799813685266) (In.wk r101 rfl : In _ 0 2251799813685247) (In.wk r105 rfl : In _ 0 2251799813685247) (In.wk r109 rfl : In _ 0 2251799813685247) (In.wk r111 rfl : In _ 0 2251799813685247) rfl
 refine ow_d0 (d_sta ty26 rfl rfl rfl ivF_one hb1 rfl) ?_
 rintro _ w71 ⟨hb38, k71, z152⟩
 replace hb37 := hb37.keep k71 (fun hm => absurd (List.mem_singleton.1 hm) (Ne.symm ne_b1_b3))
 replace hB := hB.new k71 (fun x hx => .inl ((List.mem_singleton.1 hx) ▸ ge_b1))
 clear z152
 replace hb38 : Bk w71 b1 _ [.int .u64 (hh1 0), .int .u64 (hh1 1), .int .u64 (hh1 2), .int .u64 (hh1 3), .int .u64 (hh1 4)] := hb38
 refine ow_nil (tw_retc hfin Try.results67 rfl (run_loadAgg ag26 ty26 ‹_› rfl)  ?_)
 have l0 : leI (xs.drop 0) = gb xs 0 + 256 * leI (xs.drop 1) := leI_drop xs 0 (by omega)
 have l1 : leI (xs.drop 1) = gb xs 1 + 256 * leI (xs.drop 2) := leI_drop xs 1 (by omega)
 have l2 : leI (xs.drop 2) = gb xs 2 + 256 * leI (xs.drop 3) := leI_drop xs 2 (by omega)
 have l3 : leI (xs.drop 3) = gb xs 3 + 256 * leI (xs.drop 4) := leI_drop xs 3 (by omega)
 have l4 : leI (xs.drop 4) = gb xs 4 + 256 * leI (xs.drop 5) := leI_drop xs 4 (by omega)
 have l5 : leI (xs.drop 5) = gb xs 5 + 256 * leI (xs.drop 6) := leI_drop xs 5 (by omega)
 have l6 : leI (xs.drop 6) = gb xs 6 + 256 * leI (xs.drop 7) := leI_drop xs 6 (by omega)
 have l7 : leI (xs.drop 7) = gb xs 7 + 256 * leI (xs.drop 8) := leI_drop xs 7 (by omega)
 have l8 : leI (xs.drop 8) = gb xs 8 + 256 * leI (xs.drop 9) := leI_drop xs 8 (by omega)
 have l9 : leI (xs.drop 9) = gb xs 9 + 256 * leI (xs.drop 10) := leI_drop xs 9 (by omega)
 have l10 : leI (xs.drop 10) = gb xs 10 + 256 * leI (xs.drop 11) := leI_drop xs 10 (by omega)
 have l11 : leI (xs.drop 11) = gb xs 11 + 256 * leI (xs.drop 12) := leI_drop xs 11 (by omega)
 have l12 : leI (xs.drop 12) = gb xs 12 + 256 * leI (xs.drop 13) := leI_drop xs 12 (by omega)
 have l13 : leI (xs.drop 13) = gb xs 13 + 256 * leI (xs.drop 14) := leI_drop xs 13 (by omega)
 have l14 : leI (xs.drop 14) = gb xs 14 + 256 * leI (xs.drop 15) := leI_drop xs 14 (by omega)
 have l15 : leI (xs.drop 15) = gb xs 15 + 256 * leI (xs.drop 16) := leI_drop xs 15 (by omega)
 have l16 : leI (xs.drop 16) = gb xs 16 + 256 * leI (xs.drop 17) := leI_drop xs 16 (by omega)
 have l17 : leI (xs.drop 17) = gb xs 17 + 256 * leI (xs.drop 18) := leI_drop xs 17 (by omega)
 have l18 : leI (xs.drop 18) = gb xs 18 + 256 * leI (xs.drop 19) := leI_drop xs 18 (by omega)
 have l19 : leI (xs.drop 19) = gb xs 19 + 256 * leI (xs.drop 20) := leI_drop xs 19 (by omega)
 have l20 : leI (xs.drop 20) = gb xs 20 + 256 * leI (xs.drop 21) := leI_drop xs 20 (by omega)
 have l21 : leI (xs.drop 21) = gb xs 21 + 256 * leI (xs.drop 22) := leI_drop xs 21 (by omega)
 have l22 : leI (xs.drop 22) = gb xs 22 + 256 * leI (xs.drop 23) := leI_drop xs 22 (by omega)
 have l23 : leI (xs.drop 23) = gb xs 23 + 256 * leI (xs.drop 24) := leI_drop xs 23 (by omega)
 have l24 : leI (xs.drop 24) = gb xs 24 + 256 * leI (xs.drop 25) := leI_drop xs 24 (by omega)
 have l25 : leI (xs.drop 25) = gb xs 25 + 256 * leI (xs.drop 26) := leI_drop xs 25 (by omega)
 have l26 : leI (xs.drop 26) = gb xs 26 + 256 * leI (xs.drop 27) := leI_drop xs 26 (by omega)
 have l27 : leI (xs.drop 27) = gb xs 27 + 256 * leI (xs.drop 28) := leI_drop xs 27 (by omega)
 have l28 : leI (xs.drop 28) = gb xs 28 + 256 * leI (xs.drop 29) := leI_drop xs 28 (by omega)
 have l29 : leI (xs.drop 29) = gb xs 29 + 256 * leI (xs.drop 30) := leI_drop xs 29 (by omega)
 have l30 : leI (xs.drop 30) = gb xs 30 + 256 * leI (xs.drop 31) := leI_drop xs 30 (by omega)
 have l31 : leI (xs.drop 31) = gb xs 31 + 256 * leI (xs.drop 32) := leI_drop xs 31 (by omega)
 have l32 := leI_end xs 32 (by omega)
 rw [List.drop_zero] at l0
 have w0 : Eqn z33 (gb xs 0 * 1 + gb xs 1 * 256 + gb xs 2 * 65536 + gb xs 3 * 16777216 + gb xs 4 * 4294967296 + gb xs 5 * 1099511627776 + gb xs 6 * 281474976710656 + gb xs 7 * 72057594037927936) := by simp only [Eqn] at h24 h23 h22 h21 h20 h19 h18 h17 h16 h15 h14 h13 h12 h11 h10 h9 h8 h7 h6 h5 h4 h3 h2 h1; unfold Eqn; omega
 have w1 : Eqn z65 (gb xs 8 * 1 + gb xs 9 * 256 + gb xs 10 * 65536 + gb xs 11 * 16777216 + gb xs 12 * 4294967296 + gb xs 13 * 1099511627776 + gb xs 14 * 281474976710656 + gb xs 15 * 72057594037927936) := by simp only [Eqn] at h48 h47 h46 h45 h44 h43 h42 h41 h40 h39 h38 h37 h36 h35 h34 h33 h32 h31 h30 h29 h28 h27 h26 h25; unfold Eqn; omega
 have w2 : Eqn z97 (gb xs 16 * 1 + gb xs 17 * 256 + gb xs 18 * 65536 + gb xs 19 * 16777216 + gb xs 20 * 4294967296 + gb xs 21 * 1099511627776 + gb xs 22 * 281474976710656 + gb xs 23 * 72057594037927936) := by simp only [Eqn] at h72 h71 h70 h69 h68 h67 h66 h65 h64 h63 h62 h61 h60 h59 h58 h57 h56 h55 h54 h53 h52 h51 h50 h49; unfold Eqn; omega
 have w3 : Eqn z129 (gb xs 24 * 1 + gb xs 25 * 256 + gb xs 26 * 65536 + gb xs 27 * 16777216 + gb xs 28 * 4294967296 + gb xs 29 * 1099511627776 + gb xs 30 * 281474976710656 + gb xs 31 * 72057594037927936) := by simp only [Eqn] at h96 h95 h94 h93 h92 h91 h90 h89 h88 h87 h86 h85 h84 h83 h82 h81 h80 h79 h78 h77 h76 h75 h74 h73; unfold Eqn; omega
 have hW : leI xs = z33 + z65 * 18446744073709551616 + z97 * 340282366920938463463374607431768211456 + z129 * 6277101735386680763835789423207666416102355444464034512896 := by simp only [Eqn] at w0 w1 w2 w3; omega
 clear l0 l1 l2 l3 l4 l5 l6 l7 l8 l9 l10 l11 l12 l13 l14 l15 l16 l17 l18 l19 l20 l21 l22 l23 l24 l25 l26 l27 l28 l29 l30 l31 l32
 exact ⟨hh1, rfl, ⟨(In.wk r115 rfl), (In.wk r116 rfl), (In.wk r117 rfl), (In.wk r118 rfl), (In.wk r119 rfl), by rw [fp_eq (b := leI xs) (-(c41 + (z129 / 9223372036854775808))) (by have hg := get_val (In.wk r24 rfl) (In.wk r48 rfl) (In.wk r72 rfl) (In.wk r96 rfl); have gv := gv1; clear e01 e11 e21 e31 e41 g01 g11 g21 g31 g41; simp only [Eqn] at h111 h110 h109 h108 h107 h106 h105 h104 h103 h102 h101 h100 h99 h98 h114 h113 h112 h97; subst h114 h113 h112 h111 h110 h109 h108 h107 h106 h105 h104 h103 h102 h101 h100 h99 h98 h97; omega)]⟩, hB⟩
end Go.Proofs.Ytkngeapegpehpaa.W
