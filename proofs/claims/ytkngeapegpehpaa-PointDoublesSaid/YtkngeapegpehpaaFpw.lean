import Derived.Test.YtkngeapegpehpaaFmu
import Derived.Test.YtkngeapegpehpaaFldM
namespace Go.Proofs.Ytkngeapegpehpaa.W
open Go Go.Eng Go.Byt
set_option linter.unusedVariables false
set_option linter.unusedSimpArgs false
open Go.Fld Go.Ed
set_option maxRecDepth 100000 in
theorem squares_any (f : Nat → Int) (a : Fp) (n : Int) (hf : El f a) (hn : 0 ≤ n ∧ n ≤ 1000) (w : World) : Rets Try.prog 88 [.agg (iv .u64 5 f).toArray, .int .i64 n] w (fun v w' => ∃ h, v = .agg (iv .u64 5 h).toArray ∧ El h (fpow a (2 ^ n.toNat)) ∧ Keep [] w w') := by
  have hB : Keep [] w w := Keep.refl _ _
  refine rets_of_tw Try.func88 rfl (by decide) Try.ntmps88 rfl (fun fin _ hfin => ?_)
  refine tw_seq ?_
  refine tw_region ?_
  refine ow_d (d_box (cs := [.int .u64 (f 0), .int .u64 (f 1), .int .u64 (f 2), .int .u64 (f 3), .int .u64 (f 4)]) rfl rfl) rfl ?_
  rintro _ w1 ⟨b1, rfl, eb1, hb1, k1, z1⟩
  have ge_b1 : w.heap.size ≤ b1 := by have := hB.size; omega
  replace hB := hB.trans k1
  clear eb1 z1
  refine ow_d (d_alloc ty26) rfl ?_
  rintro _ w2 ⟨b2, rfl, eb2, hb2, k2, z2⟩
  have ge_b2 : w.heap.size ≤ b2 := by have := hB.size; omega
  have ne_b1_b2 : b1 ≠ b2 := by have := hb1.lt; omega
  replace hb1 := hb1.keep0 k2
  replace hB := hB.trans k2
  clear eb2 z2
  refine ow_nil ?_
  refine tw_keep [(1, _), (2, _), (4, _)] ⟨rfl, rfl, rfl, trivial⟩ ?_
  refine tw_seq ?_
  refine tw_seq ?_
  refine tw_region ?_
  refine ow_g (g_mv rfl) rfl ?_
  refine ow_g (g_mv rfl) rfl ?_
  refine ow_nil ?_
  refine tw_keep [(2, _), (4, _), (5, _), (6, _)] ⟨rfl, rfl, rfl, rfl, trivial⟩ ?_
  refine tw_block ?_
  refine tw_loop (Γ := Int × (Nat → Int)) (fun ⟨i, h⟩ => [(2, .pointer (some ⟨b1, 0, none⟩)), (4, .pointer (some ⟨b2, 0, none⟩)), (5, .int .i64 n), (6, .int .i64 i)]) (fun ⟨i, h⟩ W => 0 ≤ i ∧ i ≤ n ∧ El h (fpow a (2 ^ i.toNat)) ∧ Bk W b1 26 (iv .u64 5 h) ∧ Bk W b2 26 [.int .u64 0, .int .u64 0, .int .u64 0, .int .u64 0, .int .u64 0] ∧ Keep [] w W) (fun ⟨i, h⟩ => (n - i).toNat) ⟨0, f⟩ ⟨rfl, rfl, rfl, rfl, trivial⟩ (⟨by decide, by omega, by simpa [one_fpow] using hf, hb1, hb2, hB⟩) ?_
  rintro ⟨i, h⟩ w3 ⟨hi0, hi1, hE, hb1, hb2, hB⟩
  refine tw_keep [(2, .pointer (some ⟨b1, 0, none⟩)), (4, .pointer (some ⟨b2, 0, none⟩)), (5, .int .i64 n), (6, .int .i64 i)] ⟨rfl, rfl, rfl, rfl, trivial⟩ ?_
  have zz := hB.size
  refine tw_seq ?_
  refine tw_region ?_
  refine ow_g (g_lt rfl rfl) rfl ?_
  refine ow_nil ?_
  refine tw_keep [(2, _), (4, _), (5, _), (6, _), (7, _)] ⟨rfl, rfl, rfl, rfl, rfl, trivial⟩ ?_
  refine tw_seq ?_
  refine tw_if rfl (fun hc1 => ?_) (fun hc1 => ?_)
  · -- yes
    refine tw_skip ?_
    refine tw_seq ?_
    refine tw_block ?_
    refine tw_region ?_
    refine ow_g (g_ldab (cs' := [_, _, _, _, _]) ag26 ty26 rfl hb1 rfl rfl) rfl ?_
    refine ow_g (g_ldab (cs' := [_, _, _, _, _]) ag26 ty26 rfl hb1 rfl rfl) rfl ?_
    refine ow_d (d_call (vs := [_, _]) rfl (mul_any _ _ _ _ hE hE _)) rfl ?_
    rintro _ w4 ⟨hh1, rfl, E1, k3⟩
    replace hb1 := hb1.keep0 k3
    replace hb2 := hb2.keep0 k3
    replace hB := hB.trans k3
    refine ow_d0 (d_sta ty26 rfl rfl rfl ivF_one hb1 rfl) ?_
    rintro _ w5 ⟨hb3, k4, z3⟩
    replace hb2 := hb2.keep k4 (fun hm => absurd (List.mem_singleton.1 hm) (Ne.symm ne_b1_b2))
    replace hB := hB.new k4 (fun x hx => .inl ((List.mem_singleton.1 hx) ▸ ge_b1))
    clear z3
    replace hb3 : Bk w5 b1 _ [.int .u64 (hh1 0), .int .u64 (hh1 1), .int .u64 (hh1 2), .int .u64 (hh1 3), .int .u64 (hh1 4)] := hb3
    refine ow_nil ?_
    refine tw_keep [(2, _), (4, _), (5, _), (6, _)] ⟨rfl, rfl, rfl, rfl, trivial⟩ ?_
    refine tw_b ?_
    refine tw_region ?_
    refine ow_g (g_add rfl rfl (by omega)) rfl ?_
    refine ow_g (g_mv rfl) rfl ?_
    refine ow_nil ?_
    refine tw_keep [(2, _), (4, _), (5, _), (6, _)] ⟨rfl, rfl, rfl, rfl, trivial⟩ ?_
    refine tw_inv (Γ := Int × (Nat → Int)) ⟨i + 1, hh1⟩ ⟨rfl, rfl, rfl, rfl, trivial⟩ (by (try dsimp only); omega) (⟨by omega, by omega, by rw [show (i + 1).toNat = i.toNat + 1 from by omega, ← fpow_dbl]; exact E1, by assumption, by assumption, hB⟩)
  · -- no
    refine tw_exit rfl ?_
    refine tw_seq ?_
    refine tw_region ?_
    refine ow_g (g_ldab (cs' := [_, _, _, _, _]) ag26 ty26 rfl hb1 rfl rfl) rfl ?_
    refine ow_d0 (d_sta ty26 rfl rfl rfl (by simp only [List.forall_mem_cons]; refine ⟨rfl, rfl, rfl, rfl, rfl, fun v hv => by cases hv⟩) hb2 rfl) ?_
    rintro _ w6 ⟨hb4, k5, z4⟩
    replace hb1 := hb1.keep k5 (fun hm => absurd (List.mem_singleton.1 hm) ne_b1_b2)
    replace hB := hB.new k5 (fun x hx => .inl ((List.mem_singleton.1 hx) ▸ ge_b2))
    clear z4
    replace hb4 : Bk w6 b2 _ [.int .u64 (h 0), .int .u64 (h 1), .int .u64 (h 2), .int .u64 (h 3), .int .u64 (h 4)] := hb4
    refine ow_nil ?_
    refine tw_keep [(4, _)] ⟨rfl, trivial⟩ ?_
    refine tw_retc hfin Try.results88 rfl (run_loadAgg ag26 ty26 (by assumption) rfl)  ?_
    obtain rfl : i = n := by omega
    exact ⟨h, rfl, hE, hB⟩

set_option maxRecDepth 100000 in
theorem ones_any (f : Nat → Int) (a : Fp) (hf : El f (fpow a 1)) (w : World) : Rets Try.prog 87 [.agg (iv .u64 5 f).toArray] w (fun v w' => ∃ g h, v = .tuple #[.agg (iv .u64 5 g).toArray, .agg (iv .u64 5 h).toArray] ∧ El g (fpow a 1809251394333065553493296640760748560207343510400633813116524750123642650623) ∧ El h (fpow a 11) ∧ Keep [] w w') := by
  have hB : Keep [] w w := Keep.refl _ _
  refine rets_of_tw Try.func87 rfl (by decide) Try.ntmps87 rfl (fun fin _ hfin => ?_)
  refine tw_seq ?_
  refine tw_region ?_
  refine ow_d (d_box (cs := [.int .u64 (f 0), .int .u64 (f 1), .int .u64 (f 2), .int .u64 (f 3), .int .u64 (f 4)]) rfl rfl) rfl ?_
  rintro _ w1 ⟨b1, rfl, eb1, hb1, k1, z1⟩
  have ge_b1 : w.heap.size ≤ b1 := by have := hB.size; omega
  replace hB := hB.trans k1
  clear eb1 z1
  refine ow_d (d_alloc ty26) rfl ?_
  rintro _ w2 ⟨b2, rfl, eb2, hb2, k2, z2⟩
  have ge_b2 : w.heap.size ≤ b2 := by have := hB.size; omega
  have ne_b1_b2 : b1 ≠ b2 := by have := hb1.lt; omega
  replace hb1 := hb1.keep0 k2
  replace hB := hB.trans k2
  clear eb2 z2
  refine ow_d (d_alloc ty26) rfl ?_
  rintro _ w3 ⟨b3, rfl, eb3, hb3, k3, z3⟩
  have ge_b3 : w.heap.size ≤ b3 := by have := hB.size; omega
  have ne_b1_b3 : b1 ≠ b3 := by have := hb1.lt; omega
  have ne_b2_b3 : b2 ≠ b3 := by have := hb2.lt; omega
  replace hb1 := hb1.keep0 k3
  replace hb2 := hb2.keep0 k3
  replace hB := hB.trans k3
  clear eb3 z3
  refine ow_nil ?_
  refine tw_keep [(1, _), (2, _), (3, _)] ⟨rfl, rfl, rfl, trivial⟩ ?_
  refine tw_seq ?_
  refine tw_region ?_
  refine ow_g (g_ldab (cs' := [_, _, _, _, _]) ag26 ty26 rfl hb1 rfl rfl) rfl ?_
  refine ow_d (d_call (vs := [_, _]) rfl (squares_any _ _ _ hf (by decide) _)) rfl ?_
  rintro _ w4 ⟨hh1, rfl, E1, k4⟩
  replace hb1 := hb1.keep0 k4
  replace hb2 := hb2.keep0 k4
  replace hb3 := hb3.keep0 k4
  replace hB := hB.trans k4
  replace E1 : El hh1 (fpow a 2) := el_sq (n := 1) E1 rfl
  refine ow_d (d_alloc ty26) rfl ?_
  rintro _ w5 ⟨b4, rfl, eb4, hb4, k5, z4⟩
  have ge_b4 : w.heap.size ≤ b4 := by have := hB.size; omega
  have ne_b1_b4 : b1 ≠ b4 := by have := hb1.lt; omega
  have ne_b2_b4 : b2 ≠ b4 := by have := hb2.lt; omega
  have ne_b3_b4 : b3 ≠ b4 := by have := hb3.lt; omega
  replace hb1 := hb1.keep0 k5
  replace hb2 := hb2.keep0 k5
  replace hb3 := hb3.keep0 k5
  replace hB := hB.trans k5
  clear eb4 z4
  refine ow_d0 (d_sta ty26 rfl rfl rfl ivF_one hb4 rfl) ?_
  rintro _ w6 ⟨hb5, k6, z5⟩
  replace hb1 := hb1.keep k6 (fun hm => absurd (List.mem_singleton.1 hm) ne_b1_b4)
  replace hb2 := hb2.keep k6 (fun hm => absurd (List.mem_singleton.1 hm) ne_b2_b4)
  replace hb3 := hb3.keep k6 (fun hm => absurd (List.mem_singleton.1 hm) ne_b3_b4)
  replace hB := hB.new k6 (fun x hx => .inl ((List.mem_singleton.1 hx) ▸ ge_b4))
  clear z5
  replace hb5 : Bk w6 b4 _ [.int .u64 (hh1 0), .int .u64 (hh1 1), .int .u64 (hh1 2), .int .u64 (hh1 3), .int .u64 (hh1 4)] := hb5
  refine ow_nil ?_
  refine tw_keep [(1, _), (2, _), (3, _), (4, _)] ⟨rfl, rfl, rfl, rfl, trivial⟩ ?_
  refine tw_seq ?_
  have gs1 := hB.size
  have lt1 := hb1.lt
  have lt2 := hb2.lt
  have lt3 := hb3.lt
  have lt4 := hb5.lt
  refine tw_planA 5 [0, 2, 1, 3] [1, 3] [] [(4, 26, [.int .u64 0, .int .u64 0, .int .u64 0, .int .u64 0, .int .u64 0])] mixed [(4, _), (1, _), (2, _), (3, _)] ⟨rfl, rfl, rfl, rfl, trivial⟩ (by decide +kernel) (by decide) (by decide) ?_ (fun x hx => by cases hx) rfl (fun w7 k7 => ?_)
  · simp only [List.forall_mem_cons]; exact ⟨⟨_, _, _, _, _, _, rfl, ty26⟩, fun q hq => by cases hq⟩
  replace hb1 := hb1.keep0 k7
  replace hb2 := hb2.keep0 k7
  replace hb3 := hb3.keep0 k7
  replace hb5 := hb5.keep0 k7
  replace hB := hB.trans k7
  refine pa_g [(4, _)] rfl rfl ⟨rfl, trivial⟩ rfl (fun W' kk => g_ldab (cs' := [_, _, _, _, _]) ag26 ty26 rfl (Bk.keep0 hb5 kk) rfl rfl) ?_
  refine pa_g [(1, _)] rfl rfl ⟨rfl, trivial⟩ rfl (fun W' kk => g_ldab (cs' := [_, _, _, _, _]) ag26 ty26 rfl (Bk.keep0 hb1 kk) rfl rfl) ?_
  refine pa_d [(15, _)] rfl rfl ⟨rfl, trivial⟩ rfl (fun w9 k9 => ?_)
  replace hb1 := hb1.keep0 k9
  replace hb2 := hb2.keep0 k9
  replace hb3 := hb3.keep0 k9
  replace hb5 := hb5.keep0 k9
  replace hB := hB.trans k9
  refine (d_call (vs := [_, _]) rfl (squares_any _ _ _ E1 (by decide) _)).mono ?_
  rintro _ w8 ⟨hh2, rfl, E2, k8⟩
  refine ⟨k8, (fun x hx => by have hx : x ∈ ([] : List Nat) := hx; cases hx), ?_⟩
  replace hb1 := hb1.keep0 k8
  replace hb2 := hb2.keep0 k8
  replace hb3 := hb3.keep0 k8
  replace hb5 := hb5.keep0 k8
  replace hB := hB.trans k8
  replace E2 : El hh2 (fpow a 8) := el_sq (n := 2) E2 rfl
  refine pa_d [(16, _), (17, _)] rfl rfl ⟨rfl, rfl, trivial⟩ rfl (fun w11 k11 => ?_)
  replace hb1 := hb1.keep0 k11
  replace hb2 := hb2.keep0 k11
  replace hb3 := hb3.keep0 k11
  replace hb5 := hb5.keep0 k11
  replace hB := hB.trans k11
  refine (d_call (vs := [_, _]) rfl (mul_any _ _ _ _ E2 hf _)).mono ?_
  rintro _ w10 ⟨hh3, rfl, E3, k10⟩
  refine ⟨k10, (fun x hx => by have hx : x ∈ ([] : List Nat) := hx; cases hx), ?_⟩
  replace hb1 := hb1.keep0 k10
  replace hb2 := hb2.keep0 k10
  replace hb3 := hb3.keep0 k10
  replace hb5 := hb5.keep0 k10
  replace hB := hB.trans k10
  replace E3 : El hh3 (fpow a 9) := el_mul E3 rfl
  refine pa_nil (fun w12 k12 => ?_)
  replace hb1 := hb1.keep0 k12
  replace hb2 := hb2.keep0 k12
  replace hb3 := hb3.keep0 k12
  replace hb5 := hb5.keep0 k12
  replace hB := hB.trans k12
  intro b5 eb5 lb1 hb6 ds1 sp1
  have ge_b5 : w.heap.size ≤ b5 := Nat.le_trans gs1 eb5
  have ne_b1_b5 : b1 ≠ b5 := Nat.ne_of_lt (Nat.lt_of_lt_of_le lt1 eb5)
  have ne_b2_b5 : b2 ≠ b5 := Nat.ne_of_lt (Nat.lt_of_lt_of_le lt2 eb5)
  have ne_b3_b5 : b3 ≠ b5 := Nat.ne_of_lt (Nat.lt_of_lt_of_le lt3 eb5)
  have ne_b4_b5 : b4 ≠ b5 := Nat.ne_of_lt (Nat.lt_of_lt_of_le lt4 eb5)
  refine fina_nil ?_
  refine ow_d0 (d_sta ty26 rfl rfl rfl ivF_one hb6 rfl) ?_
  rintro _ w13 ⟨hb7, k13, z6⟩
  replace hb1 := hb1.keep k13 (fun hm => absurd (List.mem_singleton.1 hm) ne_b1_b5)
  replace hb2 := hb2.keep k13 (fun hm => absurd (List.mem_singleton.1 hm) ne_b2_b5)
  replace hb3 := hb3.keep k13 (fun hm => absurd (List.mem_singleton.1 hm) ne_b3_b5)
  replace hb5 := hb5.keep k13 (fun hm => absurd (List.mem_singleton.1 hm) ne_b4_b5)
  replace hB := hB.new k13 (fun x hx => .inl ((List.mem_singleton.1 hx) ▸ ge_b5))
  clear z6
  replace hb7 : Bk w13 b5 _ [.int .u64 (hh3 0), .int .u64 (hh3 1), .int .u64 (hh3 2), .int .u64 (hh3 3), .int .u64 (hh3 4)] := hb7
  refine ow_nil ?_
  refine tw_keep [(4, _), (2, _), (3, _), (5, _)] ⟨rfl, rfl, rfl, rfl, trivial⟩ ?_
  refine tw_seq ?_
  refine tw_region ?_
  refine ow_g (g_ldab (cs' := [_, _, _, _, _]) ag26 ty26 rfl hb7 rfl rfl) rfl ?_
  refine ow_g (g_ldab (cs' := [_, _, _, _, _]) ag26 ty26 rfl hb5 rfl rfl) rfl ?_
  refine ow_d (d_call (vs := [_, _]) rfl (mul_any _ _ _ _ E3 E1 _)) rfl ?_
  rintro _ w14 ⟨hh4, rfl, E4, k14⟩
  replace hb1 := hb1.keep0 k14
  replace hb2 := hb2.keep0 k14
  replace hb3 := hb3.keep0 k14
  replace hb5 := hb5.keep0 k14
  replace hb7 := hb7.keep0 k14
  replace hB := hB.trans k14
  replace E4 : El hh4 (fpow a 11) := el_mul E4 rfl
  refine ow_d0 (d_sta ty26 rfl rfl rfl ivF_one hb3 rfl) ?_
  rintro _ w15 ⟨hb8, k15, z7⟩
  replace hb1 := hb1.keep k15 (fun hm => absurd (List.mem_singleton.1 hm) ne_b1_b3)
  replace hb2 := hb2.keep k15 (fun hm => absurd (List.mem_singleton.1 hm) ne_b2_b3)
  replace hb5 := hb5.keep k15 (fun hm => absurd (List.mem_singleton.1 hm) (Ne.symm ne_b3_b4))
  replace hb7 := hb7.keep k15 (fun hm => absurd (List.mem_singleton.1 hm) (Ne.symm ne_b3_b5))
  replace hB := hB.new k15 (fun x hx => .inl ((List.mem_singleton.1 hx) ▸ ge_b3))
  clear z7
  replace hb8 : Bk w15 b3 _ [.int .u64 (hh4 0), .int .u64 (hh4 1), .int .u64 (hh4 2), .int .u64 (hh4 3), .int .u64 (hh4 4)] := hb8
  refine ow_nil ?_
  refine tw_keep [(2, _), (3, _), (5, _)] ⟨rfl, rfl, rfl, trivial⟩ ?_
  refine tw_seq ?_
  have gs2 := hB.size
  have lt5 := hb1.lt
  have lt6 := hb2.lt
  have lt7 := hb5.lt
  have lt8 := hb7.lt
  have lt9 := hb8.lt
  refine tw_planA 5 [0, 2, 1, 3] [1, 3] [] [(4, 26, [.int .u64 0, .int .u64 0, .int .u64 0, .int .u64 0, .int .u64 0])] mixed [(3, _), (5, _), (2, _)] ⟨rfl, rfl, rfl, trivial⟩ (by decide +kernel) (by decide) (by decide) ?_ (fun x hx => by cases hx) rfl (fun w16 k16 => ?_)
  · simp only [List.forall_mem_cons]; exact ⟨⟨_, _, _, _, _, _, rfl, ty26⟩, fun q hq => by cases hq⟩
  replace hb1 := hb1.keep0 k16
  replace hb2 := hb2.keep0 k16
  replace hb5 := hb5.keep0 k16
  replace hb7 := hb7.keep0 k16
  replace hb8 := hb8.keep0 k16
  replace hB := hB.trans k16
  refine pa_g [(3, _)] rfl rfl ⟨rfl, trivial⟩ rfl (fun W' kk => g_ldab (cs' := [_, _, _, _, _]) ag26 ty26 rfl (Bk.keep0 hb8 kk) rfl rfl) ?_
  refine pa_g [(5, _)] rfl rfl ⟨rfl, trivial⟩ rfl (fun W' kk => g_ldab (cs' := [_, _, _, _, _]) ag26 ty26 rfl (Bk.keep0 hb7 kk) rfl rfl) ?_
  refine pa_d [(22, _)] rfl rfl ⟨rfl, trivial⟩ rfl (fun w18 k18 => ?_)
  replace hb1 := hb1.keep0 k18
  replace hb2 := hb2.keep0 k18
  replace hb5 := hb5.keep0 k18
  replace hb7 := hb7.keep0 k18
  replace hb8 := hb8.keep0 k18
  replace hB := hB.trans k18
  refine (d_call (vs := [_, _]) rfl (squares_any _ _ _ E4 (by decide) _)).mono ?_
  rintro _ w17 ⟨hh5, rfl, E5, k17⟩
  refine ⟨k17, (fun x hx => by have hx : x ∈ ([] : List Nat) := hx; cases hx), ?_⟩
  replace hb1 := hb1.keep0 k17
  replace hb2 := hb2.keep0 k17
  replace hb5 := hb5.keep0 k17
  replace hb7 := hb7.keep0 k17
  replace hb8 := hb8.keep0 k17
  replace hB := hB.trans k17
  replace E5 : El hh5 (fpow a 22) := el_sq (n := 1) E5 rfl
  refine pa_d [(23, _), (24, _)] rfl rfl ⟨rfl, rfl, trivial⟩ rfl (fun w20 k20 => ?_)
  replace hb1 := hb1.keep0 k20
  replace hb2 := hb2.keep0 k20
  replace hb5 := hb5.keep0 k20
  replace hb7 := hb7.keep0 k20
  replace hb8 := hb8.keep0 k20
  replace hB := hB.trans k20
  refine (d_call (vs := [_, _]) rfl (mul_any _ _ _ _ E5 E3 _)).mono ?_
  rintro _ w19 ⟨hh6, rfl, E6, k19⟩
  refine ⟨k19, (fun x hx => by have hx : x ∈ ([] : List Nat) := hx; cases hx), ?_⟩
  replace hb1 := hb1.keep0 k19
  replace hb2 := hb2.keep0 k19
  replace hb5 := hb5.keep0 k19
  replace hb7 := hb7.keep0 k19
  replace hb8 := hb8.keep0 k19
  replace hB := hB.trans k19
  replace E6 : El hh6 (fpow a 31) := el_mul E6 rfl
  refine pa_nil (fun w21 k21 => ?_)
  replace hb1 := hb1.keep0 k21
  replace hb2 := hb2.keep0 k21
  replace hb5 := hb5.keep0 k21
  replace hb7 := hb7.keep0 k21
  replace hb8 := hb8.keep0 k21
  replace hB := hB.trans k21
  intro b6 eb6 lb2 hb9 ds2 sp2
  have ge_b6 : w.heap.size ≤ b6 := Nat.le_trans gs2 eb6
  have ne_b1_b6 : b1 ≠ b6 := Nat.ne_of_lt (Nat.lt_of_lt_of_le lt5 eb6)
  have ne_b2_b6 : b2 ≠ b6 := Nat.ne_of_lt (Nat.lt_of_lt_of_le lt6 eb6)
  have ne_b4_b6 : b4 ≠ b6 := Nat.ne_of_lt (Nat.lt_of_lt_of_le lt7 eb6)
  have ne_b5_b6 : b5 ≠ b6 := Nat.ne_of_lt (Nat.lt_of_lt_of_le lt8 eb6)
  have ne_b3_b6 : b3 ≠ b6 := Nat.ne_of_lt (Nat.lt_of_lt_of_le lt9 eb6)
  refine fina_nil ?_
  refine ow_d0 (d_sta ty26 rfl rfl rfl ivF_one hb9 rfl) ?_
  rintro _ w22 ⟨hb10, k22, z8⟩
  replace hb1 := hb1.keep k22 (fun hm => absurd (List.mem_singleton.1 hm) ne_b1_b6)
  replace hb2 := hb2.keep k22 (fun hm => absurd (List.mem_singleton.1 hm) ne_b2_b6)
  replace hb5 := hb5.keep k22 (fun hm => absurd (List.mem_singleton.1 hm) ne_b4_b6)
  replace hb7 := hb7.keep k22 (fun hm => absurd (List.mem_singleton.1 hm) ne_b5_b6)
  replace hb8 := hb8.keep k22 (fun hm => absurd (List.mem_singleton.1 hm) ne_b3_b6)
  replace hB := hB.new k22 (fun x hx => .inl ((List.mem_singleton.1 hx) ▸ ge_b6))
  clear z8
  replace hb10 : Bk w22 b6 _ [.int .u64 (hh6 0), .int .u64 (hh6 1), .int .u64 (hh6 2), .int .u64 (hh6 3), .int .u64 (hh6 4)] := hb10
  refine ow_nil ?_
  refine tw_keep [(3, _), (2, _), (6, _)] ⟨rfl, rfl, rfl, trivial⟩ ?_
  refine tw_seq ?_
  have gs3 := hB.size
  have lt10 := hb1.lt
  have lt11 := hb2.lt
  have lt12 := hb5.lt
  have lt13 := hb7.lt
  have lt14 := hb8.lt
  have lt15 := hb10.lt
  refine tw_planA 5 [0, 2, 1, 3] [1, 3] [] [(4, 26, [.int .u64 0, .int .u64 0, .int .u64 0, .int .u64 0, .int .u64 0])] mixed [(6, _), (3, _), (2, _)] ⟨rfl, rfl, rfl, trivial⟩ (by decide +kernel) (by decide) (by decide) ?_ (fun x hx => by cases hx) rfl (fun w23 k23 => ?_)
  · simp only [List.forall_mem_cons]; exact ⟨⟨_, _, _, _, _, _, rfl, ty26⟩, fun q hq => by cases hq⟩
  replace hb1 := hb1.keep0 k23
  replace hb2 := hb2.keep0 k23
  replace hb5 := hb5.keep0 k23
  replace hb7 := hb7.keep0 k23
  replace hb8 := hb8.keep0 k23
  replace hb10 := hb10.keep0 k23
  replace hB := hB.trans k23
  refine pa_g [(6, _)] rfl rfl ⟨rfl, trivial⟩ rfl (fun W' kk => g_ldab (cs' := [_, _, _, _, _]) ag26 ty26 rfl (Bk.keep0 hb10 kk) rfl rfl) ?_
  refine pa_g [(6, _)] rfl rfl ⟨rfl, trivial⟩ rfl (fun W' kk => g_ldab (cs' := [_, _, _, _, _]) ag26 ty26 rfl (Bk.keep0 hb10 kk) rfl rfl) ?_
  refine pa_d [(26, _)] rfl rfl ⟨rfl, trivial⟩ rfl (fun w25 k25 => ?_)
  replace hb1 := hb1.keep0 k25
  replace hb2 := hb2.keep0 k25
  replace hb5 := hb5.keep0 k25
  replace hb7 := hb7.keep0 k25
  replace hb8 := hb8.keep0 k25
  replace hb10 := hb10.keep0 k25
  replace hB := hB.trans k25
  refine (d_call (vs := [_, _]) rfl (squares_any _ _ _ E6 (by decide) _)).mono ?_
  rintro _ w24 ⟨hh7, rfl, E7, k24⟩
  refine ⟨k24, (fun x hx => by have hx : x ∈ ([] : List Nat) := hx; cases hx), ?_⟩
  replace hb1 := hb1.keep0 k24
  replace hb2 := hb2.keep0 k24
  replace hb5 := hb5.keep0 k24
  replace hb7 := hb7.keep0 k24
  replace hb8 := hb8.keep0 k24
  replace hb10 := hb10.keep0 k24
  replace hB := hB.trans k24
  replace E7 : El hh7 (fpow a 992) := el_sq (n := 5) E7 rfl
  refine pa_d [(27, _), (28, _)] rfl rfl ⟨rfl, rfl, trivial⟩ rfl (fun w27 k27 => ?_)
  replace hb1 := hb1.keep0 k27
  replace hb2 := hb2.keep0 k27
  replace hb5 := hb5.keep0 k27
  replace hb7 := hb7.keep0 k27
  replace hb8 := hb8.keep0 k27
  replace hb10 := hb10.keep0 k27
  replace hB := hB.trans k27
  refine (d_call (vs := [_, _]) rfl (mul_any _ _ _ _ E7 E6 _)).mono ?_
  rintro _ w26 ⟨hh8, rfl, E8, k26⟩
  refine ⟨k26, (fun x hx => by have hx : x ∈ ([] : List Nat) := hx; cases hx), ?_⟩
  replace hb1 := hb1.keep0 k26
  replace hb2 := hb2.keep0 k26
  replace hb5 := hb5.keep0 k26
  replace hb7 := hb7.keep0 k26
  replace hb8 := hb8.keep0 k26
  replace hb10 := hb10.keep0 k26
  replace hB := hB.trans k26
  replace E8 : El hh8 (fpow a 1023) := el_mul E8 rfl
  refine pa_nil (fun w28 k28 => ?_)
  replace hb1 := hb1.keep0 k28
  replace hb2 := hb2.keep0 k28
  replace hb5 := hb5.keep0 k28
  replace hb7 := hb7.keep0 k28
  replace hb8 := hb8.keep0 k28
  replace hb10 := hb10.keep0 k28
  replace hB := hB.trans k28
  intro b7 eb7 lb3 hb11 ds3 sp3
  have ge_b7 : w.heap.size ≤ b7 := Nat.le_trans gs3 eb7
  have ne_b1_b7 : b1 ≠ b7 := Nat.ne_of_lt (Nat.lt_of_lt_of_le lt10 eb7)
  have ne_b2_b7 : b2 ≠ b7 := Nat.ne_of_lt (Nat.lt_of_lt_of_le lt11 eb7)
  have ne_b4_b7 : b4 ≠ b7 := Nat.ne_of_lt (Nat.lt_of_lt_of_le lt12 eb7)
  have ne_b5_b7 : b5 ≠ b7 := Nat.ne_of_lt (Nat.lt_of_lt_of_le lt13 eb7)
  have ne_b3_b7 : b3 ≠ b7 := Nat.ne_of_lt (Nat.lt_of_lt_of_le lt14 eb7)
  have ne_b6_b7 : b6 ≠ b7 := Nat.ne_of_lt (Nat.lt_of_lt_of_le lt15 eb7)
  refine fina_nil ?_
  refine ow_d0 (d_sta ty26 rfl rfl rfl ivF_one hb11 rfl) ?_
  rintro _ w29 ⟨hb12, k29, z9⟩
  replace hb1 := hb1.keep k29 (fun hm => absurd (List.mem_singleton.1 hm) ne_b1_b7)
  replace hb2 := hb2.keep k29 (fun hm => absurd (List.mem_singleton.1 hm) ne_b2_b7)
  replace hb5 := hb5.keep k29 (fun hm => absurd (List.mem_singleton.1 hm) ne_b4_b7)
  replace hb7 := hb7.keep k29 (fun hm => absurd (List.mem_singleton.1 hm) ne_b5_b7)
  replace hb8 := hb8.keep k29 (fun hm => absurd (List.mem_singleton.1 hm) ne_b3_b7)
  replace hb10 := hb10.keep k29 (fun hm => absurd (List.mem_singleton.1 hm) ne_b6_b7)
  replace hB := hB.new k29 (fun x hx => .inl ((List.mem_singleton.1 hx) ▸ ge_b7))
  clear z9
  replace hb12 : Bk w29 b7 _ [.int .u64 (hh8 0), .int .u64 (hh8 1), .int .u64 (hh8 2), .int .u64 (hh8 3), .int .u64 (hh8 4)] := hb12
  refine ow_nil ?_
  refine tw_keep [(3, _), (2, _), (7, _)] ⟨rfl, rfl, rfl, trivial⟩ ?_
  refine tw_seq ?_
  have gs4 := hB.size
  have lt16 := hb1.lt
  have lt17 := hb2.lt
  have lt18 := hb5.lt
  have lt19 := hb7.lt
  have lt20 := hb8.lt
  have lt21 := hb10.lt
  have lt22 := hb12.lt
  refine tw_planA 5 [0, 2, 1, 3] [1, 3] [] [(4, 26, [.int .u64 0, .int .u64 0, .int .u64 0, .int .u64 0, .int .u64 0])] mixed [(7, _), (3, _), (2, _)] ⟨rfl, rfl, rfl, trivial⟩ (by decide +kernel) (by decide) (by decide) ?_ (fun x hx => by cases hx) rfl (fun w30 k30 => ?_)
  · simp only [List.forall_mem_cons]; exact ⟨⟨_, _, _, _, _, _, rfl, ty26⟩, fun q hq => by cases hq⟩
  replace hb1 := hb1.keep0 k30
  replace hb2 := hb2.keep0 k30
  replace hb5 := hb5.keep0 k30
  replace hb7 := hb7.keep0 k30
  replace hb8 := hb8.keep0 k30
  replace hb10 := hb10.keep0 k30
  replace hb12 := hb12.keep0 k30
  replace hB := hB.trans k30
  refine pa_g [(7, _)] rfl rfl ⟨rfl, trivial⟩ rfl (fun W' kk => g_ldab (cs' := [_, _, _, _, _]) ag26 ty26 rfl (Bk.keep0 hb12 kk) rfl rfl) ?_
  refine pa_g [(7, _)] rfl rfl ⟨rfl, trivial⟩ rfl (fun W' kk => g_ldab (cs' := [_, _, _, _, _]) ag26 ty26 rfl (Bk.keep0 hb12 kk) rfl rfl) ?_
  refine pa_d [(30, _)] rfl rfl ⟨rfl, trivial⟩ rfl (fun w32 k32 => ?_)
  replace hb1 := hb1.keep0 k32
  replace hb2 := hb2.keep0 k32
  replace hb5 := hb5.keep0 k32
  replace hb7 := hb7.keep0 k32
  replace hb8 := hb8.keep0 k32
  replace hb10 := hb10.keep0 k32
  replace hb12 := hb12.keep0 k32
  replace hB := hB.trans k32
  refine (d_call (vs := [_, _]) rfl (squares_any _ _ _ E8 (by decide) _)).mono ?_
  rintro _ w31 ⟨hh9, rfl, E9, k31⟩
  refine ⟨k31, (fun x hx => by have hx : x ∈ ([] : List Nat) := hx; cases hx), ?_⟩
  replace hb1 := hb1.keep0 k31
  replace hb2 := hb2.keep0 k31
  replace hb5 := hb5.keep0 k31
  replace hb7 := hb7.keep0 k31
  replace hb8 := hb8.keep0 k31
  replace hb10 := hb10.keep0 k31
  replace hb12 := hb12.keep0 k31
  replace hB := hB.trans k31
  replace E9 : El hh9 (fpow a 1047552) := el_sq (n := 10) E9 rfl
  refine pa_d [(31, _), (32, _)] rfl rfl ⟨rfl, rfl, trivial⟩ rfl (fun w34 k34 => ?_)
  replace hb1 := hb1.keep0 k34
  replace hb2 := hb2.keep0 k34
  replace hb5 := hb5.keep0 k34
  replace hb7 := hb7.keep0 k34
  replace hb8 := hb8.keep0 k34
  replace hb10 := hb10.keep0 k34
  replace hb12 := hb12.keep0 k34
  replace hB := hB.trans k34
  refine (d_call (vs := [_, _]) rfl (mul_any _ _ _ _ E9 E8 _)).mono ?_
  rintro _ w33 ⟨hh10, rfl, E10, k33⟩
  refine ⟨k33, (fun x hx => by have hx : x ∈ ([] : List Nat) := hx; cases hx), ?_⟩
  replace hb1 := hb1.keep0 k33
  replace hb2 := hb2.keep0 k33
  replace hb5 := hb5.keep0 k33
  replace hb7 := hb7.keep0 k33
  replace hb8 := hb8.keep0 k33
  replace hb10 := hb10.keep0 k33
  replace hb12 := hb12.keep0 k33
  replace hB := hB.trans k33
  replace E10 : El hh10 (fpow a 1048575) := el_mul E10 rfl
  refine pa_nil (fun w35 k35 => ?_)
  replace hb1 := hb1.keep0 k35
  replace hb2 := hb2.keep0 k35
  replace hb5 := hb5.keep0 k35
  replace hb7 := hb7.keep0 k35
  replace hb8 := hb8.keep0 k35
  replace hb10 := hb10.keep0 k35
  replace hb12 := hb12.keep0 k35
  replace hB := hB.trans k35
  intro b8 eb8 lb4 hb13 ds4 sp4
  have ge_b8 : w.heap.size ≤ b8 := Nat.le_trans gs4 eb8
  have ne_b1_b8 : b1 ≠ b8 := Nat.ne_of_lt (Nat.lt_of_lt_of_le lt16 eb8)
  have ne_b2_b8 : b2 ≠ b8 := Nat.ne_of_lt (Nat.lt_of_lt_of_le lt17 eb8)
  have ne_b4_b8 : b4 ≠ b8 := Nat.ne_of_lt (Nat.lt_of_lt_of_le lt18 eb8)
  have ne_b5_b8 : b5 ≠ b8 := Nat.ne_of_lt (Nat.lt_of_lt_of_le lt19 eb8)
  have ne_b3_b8 : b3 ≠ b8 := Nat.ne_of_lt (Nat.lt_of_lt_of_le lt20 eb8)
  have ne_b6_b8 : b6 ≠ b8 := Nat.ne_of_lt (Nat.lt_of_lt_of_le lt21 eb8)
  have ne_b7_b8 : b7 ≠ b8 := Nat.ne_of_lt (Nat.lt_of_lt_of_le lt22 eb8)
  refine fina_nil ?_
  refine ow_d0 (d_sta ty26 rfl rfl rfl ivF_one hb13 rfl) ?_
  rintro _ w36 ⟨hb14, k36, z10⟩
  replace hb1 := hb1.keep k36 (fun hm => absurd (List.mem_singleton.1 hm) ne_b1_b8)
  replace hb2 := hb2.keep k36 (fun hm => absurd (List.mem_singleton.1 hm) ne_b2_b8)
  replace hb5 := hb5.keep k36 (fun hm => absurd (List.mem_singleton.1 hm) ne_b4_b8)
  replace hb7 := hb7.keep k36 (fun hm => absurd (List.mem_singleton.1 hm) ne_b5_b8)
  replace hb8 := hb8.keep k36 (fun hm => absurd (List.mem_singleton.1 hm) ne_b3_b8)
  replace hb10 := hb10.keep k36 (fun hm => absurd (List.mem_singleton.1 hm) ne_b6_b8)
  replace hb12 := hb12.keep k36 (fun hm => absurd (List.mem_singleton.1 hm) ne_b7_b8)
  replace hB := hB.new k36 (fun x hx => .inl ((List.mem_singleton.1 hx) ▸ ge_b8))
  clear z10
  replace hb14 : Bk w36 b8 _ [.int .u64 (hh10 0), .int .u64 (hh10 1), .int .u64 (hh10 2), .int .u64 (hh10 3), .int .u64 (hh10 4)] := hb14
  refine ow_nil ?_
  refine tw_keep [(7, _), (3, _), (2, _), (8, _)] ⟨rfl, rfl, rfl, rfl, trivial⟩ ?_
  refine tw_seq ?_
  have gs5 := hB.size
  have lt23 := hb1.lt
  have lt24 := hb2.lt
  have lt25 := hb5.lt
  have lt26 := hb7.lt
  have lt27 := hb8.lt
  have lt28 := hb10.lt
  have lt29 := hb12.lt
  have lt30 := hb14.lt
  refine tw_planA 5 [0, 2, 1, 3] [1, 3] [] [(4, 26, [.int .u64 0, .int .u64 0, .int .u64 0, .int .u64 0, .int .u64 0])] mixed [(8, _), (7, _), (3, _), (2, _)] ⟨rfl, rfl, rfl, rfl, trivial⟩ (by decide +kernel) (by decide) (by decide) ?_ (fun x hx => by cases hx) rfl (fun w37 k37 => ?_)
  · simp only [List.forall_mem_cons]; exact ⟨⟨_, _, _, _, _, _, rfl, ty26⟩, fun q hq => by cases hq⟩
  replace hb1 := hb1.keep0 k37
  replace hb2 := hb2.keep0 k37
  replace hb5 := hb5.keep0 k37
  replace hb7 := hb7.keep0 k37
  replace hb8 := hb8.keep0 k37
  replace hb10 := hb10.keep0 k37
  replace hb12 := hb12.keep0 k37
  replace hb14 := hb14.keep0 k37
  replace hB := hB.trans k37
  refine pa_g [(8, _)] rfl rfl ⟨rfl, trivial⟩ rfl (fun W' kk => g_ldab (cs' := [_, _, _, _, _]) ag26 ty26 rfl (Bk.keep0 hb14 kk) rfl rfl) ?_
  refine pa_g [(8, _)] rfl rfl ⟨rfl, trivial⟩ rfl (fun W' kk => g_ldab (cs' := [_, _, _, _, _]) ag26 ty26 rfl (Bk.keep0 hb14 kk) rfl rfl) ?_
  refine pa_d [(34, _)] rfl rfl ⟨rfl, trivial⟩ rfl (fun w39 k39 => ?_)
  replace hb1 := hb1.keep0 k39
  replace hb2 := hb2.keep0 k39
  replace hb5 := hb5.keep0 k39
  replace hb7 := hb7.keep0 k39
  replace hb8 := hb8.keep0 k39
  replace hb10 := hb10.keep0 k39
  replace hb12 := hb12.keep0 k39
  replace hb14 := hb14.keep0 k39
  replace hB := hB.trans k39
  refine (d_call (vs := [_, _]) rfl (squares_any _ _ _ E10 (by decide) _)).mono ?_
  rintro _ w38 ⟨hh11, rfl, E11, k38⟩
  refine ⟨k38, (fun x hx => by have hx : x ∈ ([] : List Nat) := hx; cases hx), ?_⟩
  replace hb1 := hb1.keep0 k38
  replace hb2 := hb2.keep0 k38
  replace hb5 := hb5.keep0 k38
  replace hb7 := hb7.keep0 k38
  replace hb8 := hb8.keep0 k38
  replace hb10 := hb10.keep0 k38
  replace hb12 := hb12.keep0 k38
  replace hb14 := hb14.keep0 k38
  replace hB := hB.trans k38
  replace E11 : El hh11 (fpow a 1099510579200) := el_sq (n := 20) E11 rfl
  refine pa_d [(35, _), (36, _)] rfl rfl ⟨rfl, rfl, trivial⟩ rfl (fun w41 k41 => ?_)
  replace hb1 := hb1.keep0 k41
  replace hb2 := hb2.keep0 k41
  replace hb5 := hb5.keep0 k41
  replace hb7 := hb7.keep0 k41
  replace hb8 := hb8.keep0 k41
  replace hb10 := hb10.keep0 k41
  replace hb12 := hb12.keep0 k41
  replace hb14 := hb14.keep0 k41
  replace hB := hB.trans k41
  refine (d_call (vs := [_, _]) rfl (mul_any _ _ _ _ E11 E10 _)).mono ?_
  rintro _ w40 ⟨hh12, rfl, E12, k40⟩
  refine ⟨k40, (fun x hx => by have hx : x ∈ ([] : List Nat) := hx; cases hx), ?_⟩
  replace hb1 := hb1.keep0 k40
  replace hb2 := hb2.keep0 k40
  replace hb5 := hb5.keep0 k40
  replace hb7 := hb7.keep0 k40
  replace hb8 := hb8.keep0 k40
  replace hb10 := hb10.keep0 k40
  replace hb12 := hb12.keep0 k40
  replace hb14 := hb14.keep0 k40
  replace hB := hB.trans k40
  replace E12 : El hh12 (fpow a 1099511627775) := el_mul E12 rfl
  refine pa_nil (fun w42 k42 => ?_)
  replace hb1 := hb1.keep0 k42
  replace hb2 := hb2.keep0 k42
  replace hb5 := hb5.keep0 k42
  replace hb7 := hb7.keep0 k42
  replace hb8 := hb8.keep0 k42
  replace hb10 := hb10.keep0 k42
  replace hb12 := hb12.keep0 k42
  replace hb14 := hb14.keep0 k42
  replace hB := hB.trans k42
  intro b9 eb9 lb5 hb15 ds5 sp5
  have ge_b9 : w.heap.size ≤ b9 := Nat.le_trans gs5 eb9
  have ne_b1_b9 : b1 ≠ b9 := Nat.ne_of_lt (Nat.lt_of_lt_of_le lt23 eb9)
  have ne_b2_b9 : b2 ≠ b9 := Nat.ne_of_lt (Nat.lt_of_lt_of_le lt24 eb9)
  have ne_b4_b9 : b4 ≠ b9 := Nat.ne_of_lt (Nat.lt_of_lt_of_le lt25 eb9)
  have ne_b5_b9 : b5 ≠ b9 := Nat.ne_of_lt (Nat.lt_of_lt_of_le lt26 eb9)
  have ne_b3_b9 : b3 ≠ b9 := Nat.ne_of_lt (Nat.lt_of_lt_of_le lt27 eb9)
  have ne_b6_b9 : b6 ≠ b9 := Nat.ne_of_lt (Nat.lt_of_lt_of_le lt28 eb9)
  have ne_b7_b9 : b7 ≠ b9 := Nat.ne_of_lt (Nat.lt_of_lt_of_le lt29 eb9)
  have ne_b8_b9 : b8 ≠ b9 := Nat.ne_of_lt (Nat.lt_of_lt_of_le lt30 eb9)
  refine fina_nil ?_
  refine ow_d0 (d_sta ty26 rfl rfl rfl ivF_one hb15 rfl) ?_
  rintro _ w43 ⟨hb16, k43, z11⟩
  replace hb1 := hb1.keep k43 (fun hm => absurd (List.mem_singleton.1 hm) ne_b1_b9)
  replace hb2 := hb2.keep k43 (fun hm => absurd (List.mem_singleton.1 hm) ne_b2_b9)
  replace hb5 := hb5.keep k43 (fun hm => absurd (List.mem_singleton.1 hm) ne_b4_b9)
  replace hb7 := hb7.keep k43 (fun hm => absurd (List.mem_singleton.1 hm) ne_b5_b9)
  replace hb8 := hb8.keep k43 (fun hm => absurd (List.mem_singleton.1 hm) ne_b3_b9)
  replace hb10 := hb10.keep k43 (fun hm => absurd (List.mem_singleton.1 hm) ne_b6_b9)
  replace hb12 := hb12.keep k43 (fun hm => absurd (List.mem_singleton.1 hm) ne_b7_b9)
  replace hb14 := hb14.keep k43 (fun hm => absurd (List.mem_singleton.1 hm) ne_b8_b9)
  replace hB := hB.new k43 (fun x hx => .inl ((List.mem_singleton.1 hx) ▸ ge_b9))
  clear z11
  replace hb16 : Bk w43 b9 _ [.int .u64 (hh12 0), .int .u64 (hh12 1), .int .u64 (hh12 2), .int .u64 (hh12 3), .int .u64 (hh12 4)] := hb16
  refine ow_nil ?_
  refine tw_keep [(7, _), (3, _), (2, _), (9, _)] ⟨rfl, rfl, rfl, rfl, trivial⟩ ?_
  refine tw_seq ?_
  have gs6 := hB.size
  have lt31 := hb1.lt
  have lt32 := hb2.lt
  have lt33 := hb5.lt
  have lt34 := hb7.lt
  have lt35 := hb8.lt
  have lt36 := hb10.lt
  have lt37 := hb12.lt
  have lt38 := hb14.lt
  have lt39 := hb16.lt
  refine tw_planA 5 [0, 2, 1, 3] [1, 3] [] [(4, 26, [.int .u64 0, .int .u64 0, .int .u64 0, .int .u64 0, .int .u64 0])] mixed [(9, _), (7, _), (3, _), (2, _)] ⟨rfl, rfl, rfl, rfl, trivial⟩ (by decide +kernel) (by decide) (by decide) ?_ (fun x hx => by cases hx) rfl (fun w44 k44 => ?_)
  · simp only [List.forall_mem_cons]; exact ⟨⟨_, _, _, _, _, _, rfl, ty26⟩, fun q hq => by cases hq⟩
  replace hb1 := hb1.keep0 k44
  replace hb2 := hb2.keep0 k44
  replace hb5 := hb5.keep0 k44
  replace hb7 := hb7.keep0 k44
  replace hb8 := hb8.keep0 k44
  replace hb10 := hb10.keep0 k44
  replace hb12 := hb12.keep0 k44
  replace hb14 := hb14.keep0 k44
  replace hb16 := hb16.keep0 k44
  replace hB := hB.trans k44
  refine pa_g [(9, _)] rfl rfl ⟨rfl, trivial⟩ rfl (fun W' kk => g_ldab (cs' := [_, _, _, _, _]) ag26 ty26 rfl (Bk.keep0 hb16 kk) rfl rfl) ?_
  refine pa_g [(7, _)] rfl rfl ⟨rfl, trivial⟩ rfl (fun W' kk => g_ldab (cs' := [_, _, _, _, _]) ag26 ty26 rfl (Bk.keep0 hb12 kk) rfl rfl) ?_
  refine pa_d [(38, _)] rfl rfl ⟨rfl, trivial⟩ rfl (fun w46 k46 => ?_)
  replace hb1 := hb1.keep0 k46
  replace hb2 := hb2.keep0 k46
  replace hb5 := hb5.keep0 k46
  replace hb7 := hb7.keep0 k46
  replace hb8 := hb8.keep0 k46
  replace hb10 := hb10.keep0 k46
  replace hb12 := hb12.keep0 k46
  replace hb14 := hb14.keep0 k46
  replace hb16 := hb16.keep0 k46
  replace hB := hB.trans k46
  refine (d_call (vs := [_, _]) rfl (squares_any _ _ _ E12 (by decide) _)).mono ?_
  rintro _ w45 ⟨hh13, rfl, E13, k45⟩
  refine ⟨k45, (fun x hx => by have hx : x ∈ ([] : List Nat) := hx; cases hx), ?_⟩
  replace hb1 := hb1.keep0 k45
  replace hb2 := hb2.keep0 k45
  replace hb5 := hb5.keep0 k45
  replace hb7 := hb7.keep0 k45
  replace hb8 := hb8.keep0 k45
  replace hb10 := hb10.keep0 k45
  replace hb12 := hb12.keep0 k45
  replace hb14 := hb14.keep0 k45
  replace hb16 := hb16.keep0 k45
  replace hB := hB.trans k45
  replace E13 : El hh13 (fpow a 1125899906841600) := el_sq (n := 10) E13 rfl
  refine pa_d [(39, _), (40, _)] rfl rfl ⟨rfl, rfl, trivial⟩ rfl (fun w48 k48 => ?_)
  replace hb1 := hb1.keep0 k48
  replace hb2 := hb2.keep0 k48
  replace hb5 := hb5.keep0 k48
  replace hb7 := hb7.keep0 k48
  replace hb8 := hb8.keep0 k48
  replace hb10 := hb10.keep0 k48
  replace hb12 := hb12.keep0 k48
  replace hb14 := hb14.keep0 k48
  replace hb16 := hb16.keep0 k48
  replace hB := hB.trans k48
  refine (d_call (vs := [_, _]) rfl (mul_any _ _ _ _ E13 E8 _)).mono ?_
  rintro _ w47 ⟨hh14, rfl, E14, k47⟩
  refine ⟨k47, (fun x hx => by have hx : x ∈ ([] : List Nat) := hx; cases hx), ?_⟩
  replace hb1 := hb1.keep0 k47
  replace hb2 := hb2.keep0 k47
  replace hb5 := hb5.keep0 k47
  replace hb7 := hb7.keep0 k47
  replace hb8 := hb8.keep0 k47
  replace hb10 := hb10.keep0 k47
  replace hb12 := hb12.keep0 k47
  replace hb14 := hb14.keep0 k47
  replace hb16 := hb16.keep0 k47
  replace hB := hB.trans k47
  replace E14 : El hh14 (fpow a 1125899906842623) := el_mul E14 rfl
  refine pa_nil (fun w49 k49 => ?_)
  replace hb1 := hb1.keep0 k49
  replace hb2 := hb2.keep0 k49
  replace hb5 := hb5.keep0 k49
  replace hb7 := hb7.keep0 k49
  replace hb8 := hb8.keep0 k49
  replace hb10 := hb10.keep0 k49
  replace hb12 := hb12.keep0 k49
  replace hb14 := hb14.keep0 k49
  replace hb16 := hb16.keep0 k49
  replace hB := hB.trans k49
  intro b10 eb10 lb6 hb17 ds6 sp6
  have ge_b10 : w.heap.size ≤ b10 := Nat.le_trans gs6 eb10
  have ne_b1_b10 : b1 ≠ b10 := Nat.ne_of_lt (Nat.lt_of_lt_of_le lt31 eb10)
  have ne_b2_b10 : b2 ≠ b10 := Nat.ne_of_lt (Nat.lt_of_lt_of_le lt32 eb10)
  have ne_b4_b10 : b4 ≠ b10 := Nat.ne_of_lt (Nat.lt_of_lt_of_le lt33 eb10)
  have ne_b5_b10 : b5 ≠ b10 := Nat.ne_of_lt (Nat.lt_of_lt_of_le lt34 eb10)
  have ne_b3_b10 : b3 ≠ b10 := Nat.ne_of_lt (Nat.lt_of_lt_of_le lt35 eb10)
  have ne_b6_b10 : b6 ≠ b10 := Nat.ne_of_lt (Nat.lt_of_lt_of_le lt36 eb10)
  have ne_b7_b10 : b7 ≠ b10 := Nat.ne_of_lt (Nat.lt_of_lt_of_le lt37 eb10)
  have ne_b8_b10 : b8 ≠ b10 := Nat.ne_of_lt (Nat.lt_of_lt_of_le lt38 eb10)
  have ne_b9_b10 : b9 ≠ b10 := Nat.ne_of_lt (Nat.lt_of_lt_of_le lt39 eb10)
  refine fina_nil ?_
  refine ow_d0 (d_sta ty26 rfl rfl rfl ivF_one hb17 rfl) ?_
  rintro _ w50 ⟨hb18, k50, z12⟩
  replace hb1 := hb1.keep k50 (fun hm => absurd (List.mem_singleton.1 hm) ne_b1_b10)
  replace hb2 := hb2.keep k50 (fun hm => absurd (List.mem_singleton.1 hm) ne_b2_b10)
  replace hb5 := hb5.keep k50 (fun hm => absurd (List.mem_singleton.1 hm) ne_b4_b10)
  replace hb7 := hb7.keep k50 (fun hm => absurd (List.mem_singleton.1 hm) ne_b5_b10)
  replace hb8 := hb8.keep k50 (fun hm => absurd (List.mem_singleton.1 hm) ne_b3_b10)
  replace hb10 := hb10.keep k50 (fun hm => absurd (List.mem_singleton.1 hm) ne_b6_b10)
  replace hb12 := hb12.keep k50 (fun hm => absurd (List.mem_singleton.1 hm) ne_b7_b10)
  replace hb14 := hb14.keep k50 (fun hm => absurd (List.mem_singleton.1 hm) ne_b8_b10)
  replace hb16 := hb16.keep k50 (fun hm => absurd (List.mem_singleton.1 hm) ne_b9_b10)
  replace hB := hB.new k50 (fun x hx => .inl ((List.mem_singleton.1 hx) ▸ ge_b10))
  clear z12
  replace hb18 : Bk w50 b10 _ [.int .u64 (hh14 0), .int .u64 (hh14 1), .int .u64 (hh14 2), .int .u64 (hh14 3), .int .u64 (hh14 4)] := hb18
  refine ow_nil ?_
  refine tw_keep [(3, _), (2, _), (10, _)] ⟨rfl, rfl, rfl, trivial⟩ ?_
  refine tw_seq ?_
  have gs7 := hB.size
  have lt40 := hb1.lt
  have lt41 := hb2.lt
  have lt42 := hb5.lt
  have lt43 := hb7.lt
  have lt44 := hb8.lt
  have lt45 := hb10.lt
  have lt46 := hb12.lt
  have lt47 := hb14.lt
  have lt48 := hb16.lt
  have lt49 := hb18.lt
  refine tw_planA 5 [0, 2, 1, 3] [1, 3] [] [(4, 26, [.int .u64 0, .int .u64 0, .int .u64 0, .int .u64 0, .int .u64 0])] mixed [(10, _), (3, _), (2, _)] ⟨rfl, rfl, rfl, trivial⟩ (by decide +kernel) (by decide) (by decide) ?_ (fun x hx => by cases hx) rfl (fun w51 k51 => ?_)
  · simp only [List.forall_mem_cons]; exact ⟨⟨_, _, _, _, _, _, rfl, ty26⟩, fun q hq => by cases hq⟩
  replace hb1 := hb1.keep0 k51
  replace hb2 := hb2.keep0 k51
  replace hb5 := hb5.keep0 k51
  replace hb7 := hb7.keep0 k51
  replace hb8 := hb8.keep0 k51
  replace hb10 := hb10.keep0 k51
  replace hb12 := hb12.keep0 k51
  replace hb14 := hb14.keep0 k51
  replace hb16 := hb16.keep0 k51
  replace hb18 := hb18.keep0 k51
  replace hB := hB.trans k51
  refine pa_g [(10, _)] rfl rfl ⟨rfl, trivial⟩ rfl (fun W' kk => g_ldab (cs' := [_, _, _, _, _]) ag26 ty26 rfl (Bk.keep0 hb18 kk) rfl rfl) ?_
  refine pa_g [(10, _)] rfl rfl ⟨rfl, trivial⟩ rfl (fun W' kk => g_ldab (cs' := [_, _, _, _, _]) ag26 ty26 rfl (Bk.keep0 hb18 kk) rfl rfl) ?_
  refine pa_d [(42, _)] rfl rfl ⟨rfl, trivial⟩ rfl (fun w53 k53 => ?_)
  replace hb1 := hb1.keep0 k53
  replace hb2 := hb2.keep0 k53
  replace hb5 := hb5.keep0 k53
  replace hb7 := hb7.keep0 k53
  replace hb8 := hb8.keep0 k53
  replace hb10 := hb10.keep0 k53
  replace hb12 := hb12.keep0 k53
  replace hb14 := hb14.keep0 k53
  replace hb16 := hb16.keep0 k53
  replace hb18 := hb18.keep0 k53
  replace hB := hB.trans k53
  refine (d_call (vs := [_, _]) rfl (squares_any _ _ _ E14 (by decide) _)).mono ?_
  rintro _ w52 ⟨hh15, rfl, E15, k52⟩
  refine ⟨k52, (fun x hx => by have hx : x ∈ ([] : List Nat) := hx; cases hx), ?_⟩
  replace hb1 := hb1.keep0 k52
  replace hb2 := hb2.keep0 k52
  replace hb5 := hb5.keep0 k52
  replace hb7 := hb7.keep0 k52
  replace hb8 := hb8.keep0 k52
  replace hb10 := hb10.keep0 k52
  replace hb12 := hb12.keep0 k52
  replace hb14 := hb14.keep0 k52
  replace hb16 := hb16.keep0 k52
  replace hb18 := hb18.keep0 k52
  replace hB := hB.trans k52
  replace E15 : El hh15 (fpow a 1267650600228228275596796362752) := el_sq (n := 50) E15 rfl
  refine pa_d [(43, _), (44, _)] rfl rfl ⟨rfl, rfl, trivial⟩ rfl (fun w55 k55 => ?_)
  replace hb1 := hb1.keep0 k55
  replace hb2 := hb2.keep0 k55
  replace hb5 := hb5.keep0 k55
  replace hb7 := hb7.keep0 k55
  replace hb8 := hb8.keep0 k55
  replace hb10 := hb10.keep0 k55
  replace hb12 := hb12.keep0 k55
  replace hb14 := hb14.keep0 k55
  replace hb16 := hb16.keep0 k55
  replace hb18 := hb18.keep0 k55
  replace hB := hB.trans k55
  refine (d_call (vs := [_, _]) rfl (mul_any _ _ _ _ E15 E14 _)).mono ?_
  rintro _ w54 ⟨hh16, rfl, E16, k54⟩
  refine ⟨k54, (fun x hx => by have hx : x ∈ ([] : List Nat) := hx; cases hx), ?_⟩
  replace hb1 := hb1.keep0 k54
  replace hb2 := hb2.keep0 k54
  replace hb5 := hb5.keep0 k54
  replace hb7 := hb7.keep0 k54
  replace hb8 := hb8.keep0 k54
  replace hb10 := hb10.keep0 k54
  replace hb12 := hb12.keep0 k54
  replace hb14 := hb14.keep0 k54
  replace hb16 := hb16.keep0 k54
  replace hb18 := hb18.keep0 k54
  replace hB := hB.trans k54
  replace E16 : El hh16 (fpow a 1267650600228229401496703205375) := el_mul E16 rfl
  refine pa_nil (fun w56 k56 => ?_)
  replace hb1 := hb1.keep0 k56
  replace hb2 := hb2.keep0 k56
  replace hb5 := hb5.keep0 k56
  replace hb7 := hb7.keep0 k56
  replace hb8 := hb8.keep0 k56
  replace hb10 := hb10.keep0 k56
  replace hb12 := hb12.keep0 k56
  replace hb14 := hb14.keep0 k56
  replace hb16 := hb16.keep0 k56
  replace hb18 := hb18.keep0 k56
  replace hB := hB.trans k56
  intro b11 eb11 lb7 hb19 ds7 sp7
  have ge_b11 : w.heap.size ≤ b11 := Nat.le_trans gs7 eb11
  have ne_b1_b11 : b1 ≠ b11 := Nat.ne_of_lt (Nat.lt_of_lt_of_le lt40 eb11)
  have ne_b2_b11 : b2 ≠ b11 := Nat.ne_of_lt (Nat.lt_of_lt_of_le lt41 eb11)
  have ne_b4_b11 : b4 ≠ b11 := Nat.ne_of_lt (Nat.lt_of_lt_of_le lt42 eb11)
  have ne_b5_b11 : b5 ≠ b11 := Nat.ne_of_lt (Nat.lt_of_lt_of_le lt43 eb11)
  have ne_b3_b11 : b3 ≠ b11 := Nat.ne_of_lt (Nat.lt_of_lt_of_le lt44 eb11)
  have ne_b6_b11 : b6 ≠ b11 := Nat.ne_of_lt (Nat.lt_of_lt_of_le lt45 eb11)
  have ne_b7_b11 : b7 ≠ b11 := Nat.ne_of_lt (Nat.lt_of_lt_of_le lt46 eb11)
  have ne_b8_b11 : b8 ≠ b11 := Nat.ne_of_lt (Nat.lt_of_lt_of_le lt47 eb11)
  have ne_b9_b11 : b9 ≠ b11 := Nat.ne_of_lt (Nat.lt_of_lt_of_le lt48 eb11)
  have ne_b10_b11 : b10 ≠ b11 := Nat.ne_of_lt (Nat.lt_of_lt_of_le lt49 eb11)
  refine fina_nil ?_
  refine ow_d0 (d_sta ty26 rfl rfl rfl ivF_one hb19 rfl) ?_
  rintro _ w57 ⟨hb20, k57, z13⟩
  replace hb1 := hb1.keep k57 (fun hm => absurd (List.mem_singleton.1 hm) ne_b1_b11)
  replace hb2 := hb2.keep k57 (fun hm => absurd (List.mem_singleton.1 hm) ne_b2_b11)
  replace hb5 := hb5.keep k57 (fun hm => absurd (List.mem_singleton.1 hm) ne_b4_b11)
  replace hb7 := hb7.keep k57 (fun hm => absurd (List.mem_singleton.1 hm) ne_b5_b11)
  replace hb8 := hb8.keep k57 (fun hm => absurd (List.mem_singleton.1 hm) ne_b3_b11)
  replace hb10 := hb10.keep k57 (fun hm => absurd (List.mem_singleton.1 hm) ne_b6_b11)
  replace hb12 := hb12.keep k57 (fun hm => absurd (List.mem_singleton.1 hm) ne_b7_b11)
  replace hb14 := hb14.keep k57 (fun hm => absurd (List.mem_singleton.1 hm) ne_b8_b11)
  replace hb16 := hb16.keep k57 (fun hm => absurd (List.mem_singleton.1 hm) ne_b9_b11)
  replace hb18 := hb18.keep k57 (fun hm => absurd (List.mem_singleton.1 hm) ne_b10_b11)
  replace hB := hB.new k57 (fun x hx => .inl ((List.mem_singleton.1 hx) ▸ ge_b11))
  clear z13
  replace hb20 : Bk w57 b11 _ [.int .u64 (hh16 0), .int .u64 (hh16 1), .int .u64 (hh16 2), .int .u64 (hh16 3), .int .u64 (hh16 4)] := hb20
  refine ow_nil ?_
  refine tw_keep [(10, _), (3, _), (2, _), (11, _)] ⟨rfl, rfl, rfl, rfl, trivial⟩ ?_
  refine tw_seq ?_
  have gs8 := hB.size
  have lt50 := hb1.lt
  have lt51 := hb2.lt
  have lt52 := hb5.lt
  have lt53 := hb7.lt
  have lt54 := hb8.lt
  have lt55 := hb10.lt
  have lt56 := hb12.lt
  have lt57 := hb14.lt
  have lt58 := hb16.lt
  have lt59 := hb18.lt
  have lt60 := hb20.lt
  refine tw_planA 5 [0, 2, 1, 3] [1, 3] [] [(4, 26, [.int .u64 0, .int .u64 0, .int .u64 0, .int .u64 0, .int .u64 0])] mixed [(11, _), (10, _), (3, _), (2, _)] ⟨rfl, rfl, rfl, rfl, trivial⟩ (by decide +kernel) (by decide) (by decide) ?_ (fun x hx => by cases hx) rfl (fun w58 k58 => ?_)
  · simp only [List.forall_mem_cons]; exact ⟨⟨_, _, _, _, _, _, rfl, ty26⟩, fun q hq => by cases hq⟩
  replace hb1 := hb1.keep0 k58
  replace hb2 := hb2.keep0 k58
  replace hb5 := hb5.keep0 k58
  replace hb7 := hb7.keep0 k58
  replace hb8 := hb8.keep0 k58
  replace hb10 := hb10.keep0 k58
  replace hb12 := hb12.keep0 k58
  replace hb14 := hb14.keep0 k58
  replace hb16 := hb16.keep0 k58
  replace hb18 := hb18.keep0 k58
  replace hb20 := hb20.keep0 k58
  replace hB := hB.trans k58
  refine pa_g [(11, _)] rfl rfl ⟨rfl, trivial⟩ rfl (fun W' kk => g_ldab (cs' := [_, _, _, _, _]) ag26 ty26 rfl (Bk.keep0 hb20 kk) rfl rfl) ?_
  refine pa_g [(11, _)] rfl rfl ⟨rfl, trivial⟩ rfl (fun W' kk => g_ldab (cs' := [_, _, _, _, _]) ag26 ty26 rfl (Bk.keep0 hb20 kk) rfl rfl) ?_
  refine pa_d [(46, _)] rfl rfl ⟨rfl, trivial⟩ rfl (fun w60 k60 => ?_)
  replace hb1 := hb1.keep0 k60
  replace hb2 := hb2.keep0 k60
  replace hb5 := hb5.keep0 k60
  replace hb7 := hb7.keep0 k60
  replace hb8 := hb8.keep0 k60
  replace hb10 := hb10.keep0 k60
  replace hb12 := hb12.keep0 k60
  replace hb14 := hb14.keep0 k60
  replace hb16 := hb16.keep0 k60
  replace hb18 := hb18.keep0 k60
  replace hb20 := hb20.keep0 k60
  replace hB := hB.trans k60
  refine (d_call (vs := [_, _]) rfl (squares_any _ _ _ E16 (by decide) _)).mono ?_
  rintro _ w59 ⟨hh17, rfl, E17, k59⟩
  refine ⟨k59, (fun x hx => by have hx : x ∈ ([] : List Nat) := hx; cases hx), ?_⟩
  replace hb1 := hb1.keep0 k59
  replace hb2 := hb2.keep0 k59
  replace hb5 := hb5.keep0 k59
  replace hb7 := hb7.keep0 k59
  replace hb8 := hb8.keep0 k59
  replace hb10 := hb10.keep0 k59
  replace hb12 := hb12.keep0 k59
  replace hb14 := hb14.keep0 k59
  replace hb16 := hb16.keep0 k59
  replace hb18 := hb18.keep0 k59
  replace hb20 := hb20.keep0 k59
  replace hB := hB.trans k59
  replace E17 : El hh17 (fpow a 1606938044258990275541962092339894951921974764381296132096000) := el_sq (n := 100) E17 rfl
  refine pa_d [(47, _), (48, _)] rfl rfl ⟨rfl, rfl, trivial⟩ rfl (fun w62 k62 => ?_)
  replace hb1 := hb1.keep0 k62
  replace hb2 := hb2.keep0 k62
  replace hb5 := hb5.keep0 k62
  replace hb7 := hb7.keep0 k62
  replace hb8 := hb8.keep0 k62
  replace hb10 := hb10.keep0 k62
  replace hb12 := hb12.keep0 k62
  replace hb14 := hb14.keep0 k62
  replace hb16 := hb16.keep0 k62
  replace hb18 := hb18.keep0 k62
  replace hb20 := hb20.keep0 k62
  replace hB := hB.trans k62
  refine (d_call (vs := [_, _]) rfl (mul_any _ _ _ _ E17 E16 _)).mono ?_
  rintro _ w61 ⟨hh18, rfl, E18, k61⟩
  refine ⟨k61, (fun x hx => by have hx : x ∈ ([] : List Nat) := hx; cases hx), ?_⟩
  replace hb1 := hb1.keep0 k61
  replace hb2 := hb2.keep0 k61
  replace hb5 := hb5.keep0 k61
  replace hb7 := hb7.keep0 k61
  replace hb8 := hb8.keep0 k61
  replace hb10 := hb10.keep0 k61
  replace hb12 := hb12.keep0 k61
  replace hb14 := hb14.keep0 k61
  replace hb16 := hb16.keep0 k61
  replace hb18 := hb18.keep0 k61
  replace hb20 := hb20.keep0 k61
  replace hB := hB.trans k61
  replace E18 : El hh18 (fpow a 1606938044258990275541962092341162602522202993782792835301375) := el_mul E18 rfl
  refine pa_nil (fun w63 k63 => ?_)
  replace hb1 := hb1.keep0 k63
  replace hb2 := hb2.keep0 k63
  replace hb5 := hb5.keep0 k63
  replace hb7 := hb7.keep0 k63
  replace hb8 := hb8.keep0 k63
  replace hb10 := hb10.keep0 k63
  replace hb12 := hb12.keep0 k63
  replace hb14 := hb14.keep0 k63
  replace hb16 := hb16.keep0 k63
  replace hb18 := hb18.keep0 k63
  replace hb20 := hb20.keep0 k63
  replace hB := hB.trans k63
  intro b12 eb12 lb8 hb21 ds8 sp8
  have ge_b12 : w.heap.size ≤ b12 := Nat.le_trans gs8 eb12
  have ne_b1_b12 : b1 ≠ b12 := Nat.ne_of_lt (Nat.lt_of_lt_of_le lt50 eb12)
  have ne_b2_b12 : b2 ≠ b12 := Nat.ne_of_lt (Nat.lt_of_lt_of_le lt51 eb12)
  have ne_b4_b12 : b4 ≠ b12 := Nat.ne_of_lt (Nat.lt_of_lt_of_le lt52 eb12)
  have ne_b5_b12 : b5 ≠ b12 := Nat.ne_of_lt (Nat.lt_of_lt_of_le lt53 eb12)
  have ne_b3_b12 : b3 ≠ b12 := Nat.ne_of_lt (Nat.lt_of_lt_of_le lt54 eb12)
  have ne_b6_b12 : b6 ≠ b12 := Nat.ne_of_lt (Nat.lt_of_lt_of_le lt55 eb12)
  have ne_b7_b12 : b7 ≠ b12 := Nat.ne_of_lt (Nat.lt_of_lt_of_le lt56 eb12)
  have ne_b8_b12 : b8 ≠ b12 := Nat.ne_of_lt (Nat.lt_of_lt_of_le lt57 eb12)
  have ne_b9_b12 : b9 ≠ b12 := Nat.ne_of_lt (Nat.lt_of_lt_of_le lt58 eb12)
  have ne_b10_b12 : b10 ≠ b12 := Nat.ne_of_lt (Nat.lt_of_lt_of_le lt59 eb12)
  have ne_b11_b12 : b11 ≠ b12 := Nat.ne_of_lt (Nat.lt_of_lt_of_le lt60 eb12)
  refine fina_nil ?_
  refine ow_d0 (d_sta ty26 rfl rfl rfl ivF_one hb21 rfl) ?_
  rintro _ w64 ⟨hb22, k64, z14⟩
  replace hb1 := hb1.keep k64 (fun hm => absurd (List.mem_singleton.1 hm) ne_b1_b12)
  replace hb2 := hb2.keep k64 (fun hm => absurd (List.mem_singleton.1 hm) ne_b2_b12)
  replace hb5 := hb5.keep k64 (fun hm => absurd (List.mem_singleton.1 hm) ne_b4_b12)
  replace hb7 := hb7.keep k64 (fun hm => absurd (List.mem_singleton.1 hm) ne_b5_b12)
  replace hb8 := hb8.keep k64 (fun hm => absurd (List.mem_singleton.1 hm) ne_b3_b12)
  replace hb10 := hb10.keep k64 (fun hm => absurd (List.mem_singleton.1 hm) ne_b6_b12)
  replace hb12 := hb12.keep k64 (fun hm => absurd (List.mem_singleton.1 hm) ne_b7_b12)
  replace hb14 := hb14.keep k64 (fun hm => absurd (List.mem_singleton.1 hm) ne_b8_b12)
  replace hb16 := hb16.keep k64 (fun hm => absurd (List.mem_singleton.1 hm) ne_b9_b12)
  replace hb18 := hb18.keep k64 (fun hm => absurd (List.mem_singleton.1 hm) ne_b10_b12)
  replace hb20 := hb20.keep k64 (fun hm => absurd (List.mem_singleton.1 hm) ne_b11_b12)
  replace hB := hB.new k64 (fun x hx => .inl ((List.mem_singleton.1 hx) ▸ ge_b12))
  clear z14
  replace hb22 : Bk w64 b12 _ [.int .u64 (hh18 0), .int .u64 (hh18 1), .int .u64 (hh18 2), .int .u64 (hh18 3), .int .u64 (hh18 4)] := hb22
  refine ow_nil ?_
  refine tw_keep [(10, _), (3, _), (2, _), (12, _)] ⟨rfl, rfl, rfl, rfl, trivial⟩ ?_
  refine tw_seq ?_
  refine tw_planA 6 [0, 2, 4, 1, 3, 5] [1, 3, 5] [b2] [] mixed [(12, _), (10, _), (3, _), (2, _)] ⟨rfl, rfl, rfl, rfl, trivial⟩ (by decide +kernel) (by decide) (by decide) ?_ (fun x hx => by simp only [List.mem_cons, List.not_mem_nil, or_false] at hx; have := hb2.lt; omega) rfl (fun w65 k65 => ?_)
  · intro q hq; cases hq
  replace hb1 := hb1.keep0 k65
  replace hb2 := hb2.keep0 k65
  replace hb5 := hb5.keep0 k65
  replace hb7 := hb7.keep0 k65
  replace hb8 := hb8.keep0 k65
  replace hb10 := hb10.keep0 k65
  replace hb12 := hb12.keep0 k65
  replace hb14 := hb14.keep0 k65
  replace hb16 := hb16.keep0 k65
  replace hb18 := hb18.keep0 k65
  replace hb20 := hb20.keep0 k65
  replace hb22 := hb22.keep0 k65
  replace hB := hB.trans k65
  refine pa_g [(12, _)] rfl rfl ⟨rfl, trivial⟩ rfl (fun W' kk => g_ldab (cs' := [_, _, _, _, _]) ag26 ty26 rfl (Bk.keep hb22 kk (by simp only [List.mem_cons, List.not_mem_nil, or_false]; first | assumption | (apply Ne.symm; assumption) | omega)) rfl rfl) ?_
  refine pa_g [(10, _)] rfl rfl ⟨rfl, trivial⟩ rfl (fun W' kk => g_ldab (cs' := [_, _, _, _, _]) ag26 ty26 rfl (Bk.keep hb18 kk (by simp only [List.mem_cons, List.not_mem_nil, or_false]; first | assumption | (apply Ne.symm; assumption) | omega)) rfl rfl) ?_
  refine pa_g [(3, _)] rfl rfl ⟨rfl, trivial⟩ rfl (fun W' kk => g_ldab (cs' := [_, _, _, _, _]) ag26 ty26 rfl (Bk.keep hb8 kk (by simp only [List.mem_cons, List.not_mem_nil, or_false]; first | assumption | (apply Ne.symm; assumption) | omega)) rfl rfl) ?_
  refine pa_d [(50, _)] rfl rfl ⟨rfl, trivial⟩ rfl (fun w67 k67 => ?_)
  replace hb1 := hb1.keep0 k67
  replace hb2 := hb2.keep0 k67
  replace hb5 := hb5.keep0 k67
  replace hb7 := hb7.keep0 k67
  replace hb8 := hb8.keep0 k67
  replace hb10 := hb10.keep0 k67
  replace hb12 := hb12.keep0 k67
  replace hb14 := hb14.keep0 k67
  replace hb16 := hb16.keep0 k67
  replace hb18 := hb18.keep0 k67
  replace hb20 := hb20.keep0 k67
  replace hb22 := hb22.keep0 k67
  replace hB := hB.trans k67
  refine (d_call (vs := [_, _]) rfl (squares_any _ _ _ E18 (by decide) _)).mono ?_
  rintro _ w66 ⟨hh19, rfl, E19, k66⟩
  refine ⟨k66.weak, (fun x hx => by have hx : x ∈ ([] : List Nat) := hx; cases hx), ?_⟩
  replace hb1 := hb1.keep0 k66
  replace hb2 := hb2.keep0 k66
  replace hb5 := hb5.keep0 k66
  replace hb7 := hb7.keep0 k66
  replace hb8 := hb8.keep0 k66
  replace hb10 := hb10.keep0 k66
  replace hb12 := hb12.keep0 k66
  replace hb14 := hb14.keep0 k66
  replace hb16 := hb16.keep0 k66
  replace hb18 := hb18.keep0 k66
  replace hb20 := hb20.keep0 k66
  replace hb22 := hb22.keep0 k66
  replace hB := hB.trans k66
  replace E19 : El hh19 (fpow a 1809251394333065553493296640760748560207343510400633813116523624223735808000) := el_sq (n := 50) E19 rfl
  refine pa_d [(51, _), (52, _)] rfl rfl ⟨rfl, rfl, trivial⟩ rfl (fun w69 k69 => ?_)
  replace hb1 := hb1.keep0 k69
  replace hb2 := hb2.keep0 k69
  replace hb5 := hb5.keep0 k69
  replace hb7 := hb7.keep0 k69
  replace hb8 := hb8.keep0 k69
  replace hb10 := hb10.keep0 k69
  replace hb12 := hb12.keep0 k69
  replace hb14 := hb14.keep0 k69
  replace hb16 := hb16.keep0 k69
  replace hb18 := hb18.keep0 k69
  replace hb20 := hb20.keep0 k69
  replace hb22 := hb22.keep0 k69
  replace hB := hB.trans k69
  refine (d_call (vs := [_, _]) rfl (mul_any _ _ _ _ E19 E14 _)).mono ?_
  rintro _ w68 ⟨hh20, rfl, E20, k68⟩
  refine ⟨k68.weak, (fun x hx => by have hx : x ∈ ([] : List Nat) := hx; cases hx), ?_⟩
  replace hb1 := hb1.keep0 k68
  replace hb2 := hb2.keep0 k68
  replace hb5 := hb5.keep0 k68
  replace hb7 := hb7.keep0 k68
  replace hb8 := hb8.keep0 k68
  replace hb10 := hb10.keep0 k68
  replace hb12 := hb12.keep0 k68
  replace hb14 := hb14.keep0 k68
  replace hb16 := hb16.keep0 k68
  replace hb18 := hb18.keep0 k68
  replace hb20 := hb20.keep0 k68
  replace hb22 := hb22.keep0 k68
  replace hB := hB.trans k68
  replace E20 : El hh20 (fpow a 1809251394333065553493296640760748560207343510400633813116524750123642650623) := el_mul E20 rfl
  refine pa_d0 [(2, _), (53, _)] rfl rfl ⟨rfl, rfl, trivial⟩ rfl (fun w70 k70 => ?_)
  replace hb1 := hb1.keep0 k70
  replace hb2 := hb2.keep0 k70
  replace hb5 := hb5.keep0 k70
  replace hb7 := hb7.keep0 k70
  replace hb8 := hb8.keep0 k70
  replace hb10 := hb10.keep0 k70
  replace hb12 := hb12.keep0 k70
  replace hb14 := hb14.keep0 k70
  replace hb16 := hb16.keep0 k70
  replace hb18 := hb18.keep0 k70
  replace hb20 := hb20.keep0 k70
  replace hb22 := hb22.keep0 k70
  replace hB := hB.trans k70
  refine (d_sta ty26 rfl rfl rfl ivF_one hb2 rfl).mono ?_
  rintro _ w71 ⟨hb23, k71, z15⟩
  refine ⟨k71, ?_⟩
  replace hb1 := hb1.keep k71 (fun hm => absurd (List.mem_singleton.1 hm) ne_b1_b2)
  replace hb5 := hb5.keep k71 (fun hm => absurd (List.mem_singleton.1 hm) (Ne.symm ne_b2_b4))
  replace hb7 := hb7.keep k71 (fun hm => absurd (List.mem_singleton.1 hm) (Ne.symm ne_b2_b5))
  replace hb8 := hb8.keep k71 (fun hm => absurd (List.mem_singleton.1 hm) (Ne.symm ne_b2_b3))
  replace hb10 := hb10.keep k71 (fun hm => absurd (List.mem_singleton.1 hm) (Ne.symm ne_b2_b6))
  replace hb12 := hb12.keep k71 (fun hm => absurd (List.mem_singleton.1 hm) (Ne.symm ne_b2_b7))
  replace hb14 := hb14.keep k71 (fun hm => absurd (List.mem_singleton.1 hm) (Ne.symm ne_b2_b8))
  replace hb16 := hb16.keep k71 (fun hm => absurd (List.mem_singleton.1 hm) (Ne.symm ne_b2_b9))
  replace hb18 := hb18.keep k71 (fun hm => absurd (List.mem_singleton.1 hm) (Ne.symm ne_b2_b10))
  replace hb20 := hb20.keep k71 (fun hm => absurd (List.mem_singleton.1 hm) (Ne.symm ne_b2_b11))
  replace hb22 := hb22.keep k71 (fun hm => absurd (List.mem_singleton.1 hm) (Ne.symm ne_b2_b12))
  replace hB := hB.new k71 (fun x hx => .inl ((List.mem_singleton.1 hx) ▸ ge_b2))
  clear z15
  replace hb23 : Bk w71 b2 _ [.int .u64 (hh20 0), .int .u64 (hh20 1), .int .u64 (hh20 2), .int .u64 (hh20 3), .int .u64 (hh20 4)] := hb23
  refine pa_nil (fun w72 k72 => ?_)
  replace hb1 := hb1.keep0 k72
  replace hb5 := hb5.keep0 k72
  replace hb7 := hb7.keep0 k72
  replace hb8 := hb8.keep0 k72
  replace hb10 := hb10.keep0 k72
  replace hb12 := hb12.keep0 k72
  replace hb14 := hb14.keep0 k72
  replace hb16 := hb16.keep0 k72
  replace hb18 := hb18.keep0 k72
  replace hb20 := hb20.keep0 k72
  replace hb22 := hb22.keep0 k72
  replace hb23 := hb23.keep0 k72
  replace hB := hB.trans k72
  refine fina_nil ?_
  refine ow_d0 (d_sta ty26 rfl rfl rfl (by simp only [List.forall_mem_cons]; refine ⟨rfl, rfl, rfl, rfl, rfl, fun v hv => by cases hv⟩) hb8 rfl) ?_
  rintro _ w73 ⟨hb24, k73, z16⟩
  replace hb1 := hb1.keep k73 (fun hm => absurd (List.mem_singleton.1 hm) ne_b1_b3)
  replace hb5 := hb5.keep k73 (fun hm => absurd (List.mem_singleton.1 hm) (Ne.symm ne_b3_b4))
  replace hb7 := hb7.keep k73 (fun hm => absurd (List.mem_singleton.1 hm) (Ne.symm ne_b3_b5))
  replace hb10 := hb10.keep k73 (fun hm => absurd (List.mem_singleton.1 hm) (Ne.symm ne_b3_b6))
  replace hb12 := hb12.keep k73 (fun hm => absurd (List.mem_singleton.1 hm) (Ne.symm ne_b3_b7))
  replace hb14 := hb14.keep k73 (fun hm => absurd (List.mem_singleton.1 hm) (Ne.symm ne_b3_b8))
  replace hb16 := hb16.keep k73 (fun hm => absurd (List.mem_singleton.1 hm) (Ne.symm ne_b3_b9))
  replace hb18 := hb18.keep k73 (fun hm => absurd (List.mem_singleton.1 hm) (Ne.symm ne_b3_b10))
  replace hb20 := hb20.keep k73 (fun hm => absurd (List.mem_singleton.1 hm) (Ne.symm ne_b3_b11))
  replace hb22 := hb22.keep k73 (fun hm => absurd (List.mem_singleton.1 hm) (Ne.symm ne_b3_b12))
  replace hb23 := hb23.keep k73 (fun hm => absurd (List.mem_singleton.1 hm) ne_b2_b3)
  replace hB := hB.new k73 (fun x hx => .inl ((List.mem_singleton.1 hx) ▸ ge_b3))
  clear z16
  replace hb24 : Bk w73 b3 _ [.int .u64 (hh4 0), .int .u64 (hh4 1), .int .u64 (hh4 2), .int .u64 (hh4 3), .int .u64 (hh4 4)] := hb24
  refine ow_nil ?_
  refine tw_keep [(3, _), (2, _)] ⟨rfl, rfl, trivial⟩ ?_
  refine tw_retcc hfin Try.results87 rfl (run_loadAgg ag26 ty26 (by assumption) rfl) rfl (run_loadAgg ag26 ty26 (by assumption) rfl) ?_
  exact ⟨hh20, hh4, rfl, E20, E4, hB⟩

set_option maxRecDepth 100000 in
theorem inv_any (f : Nat → Int) (a : Fp) (hf : El f a) (w : World) : Rets Try.prog 77 [.agg (iv .u64 5 f).toArray] w (fun v w' => ∃ h, v = .agg (iv .u64 5 h).toArray ∧ El h (inv a) ∧ Keep [] w w') := by
  have hB : Keep [] w w := Keep.refl _ _
  have hf1 := el_one hf
  refine rets_of_tw Try.func77 rfl (by decide) Try.ntmps77 rfl (fun fin _ hfin => ?_)
  refine tw_seq ?_
  refine tw_region ?_
  refine ow_d (d_box (cs := [.int .u64 (f 0), .int .u64 (f 1), .int .u64 (f 2), .int .u64 (f 3), .int .u64 (f 4)]) rfl rfl) rfl ?_
  rintro _ w1 ⟨b1, rfl, eb1, hb1, k1, z1⟩
  have ge_b1 : w.heap.size ≤ b1 := by have := hB.size; omega
  replace hB := hB.trans k1
  clear eb1 z1
  refine ow_d (d_alloc ty26) rfl ?_
  rintro _ w2 ⟨b2, rfl, eb2, hb2, k2, z2⟩
  have ge_b2 : w.heap.size ≤ b2 := by have := hB.size; omega
  have ne_b1_b2 : b1 ≠ b2 := by have := hb1.lt; omega
  replace hb1 := hb1.keep0 k2
  replace hB := hB.trans k2
  clear eb2 z2
  refine ow_nil ?_
  refine tw_keep [(1, _), (2, _)] ⟨rfl, rfl, trivial⟩ ?_
  refine tw_seq ?_
  refine tw_region ?_
  refine ow_g (g_ldab (cs' := [_, _, _, _, _]) ag26 ty26 rfl hb1 rfl rfl) rfl ?_
  refine ow_d (d_call (vs := [_]) rfl (ones_any _ _ hf1 _)) rfl ?_
  rintro _ w3 ⟨gg1, hh1, rfl, E1, G1, k3⟩
  replace hb1 := hb1.keep0 k3
  replace hb2 := hb2.keep0 k3
  replace hB := hB.trans k3
  refine ow_g (g_mv rfl) rfl ?_
  refine ow_g (g_ext (vs := [_, _]) rfl rfl) rfl ?_
  refine ow_g (g_ext (vs := [_, _]) rfl rfl) rfl ?_
  refine ow_d (d_alloc ty26) rfl ?_
  rintro _ w4 ⟨b3, rfl, eb3, hb3, k4, z3⟩
  have ge_b3 : w.heap.size ≤ b3 := by have := hB.size; omega
  have ne_b1_b3 : b1 ≠ b3 := by have := hb1.lt; omega
  have ne_b2_b3 : b2 ≠ b3 := by have := hb2.lt; omega
  replace hb1 := hb1.keep0 k4
  replace hb2 := hb2.keep0 k4
  replace hB := hB.trans k4
  clear eb3 z3
  refine ow_d (d_alloc ty26) rfl ?_
  rintro _ w5 ⟨b4, rfl, eb4, hb4, k5, z4⟩
  have ge_b4 : w.heap.size ≤ b4 := by have := hB.size; omega
  have ne_b1_b4 : b1 ≠ b4 := by have := hb1.lt; omega
  have ne_b2_b4 : b2 ≠ b4 := by have := hb2.lt; omega
  have ne_b3_b4 : b3 ≠ b4 := by have := hb3.lt; omega
  replace hb1 := hb1.keep0 k5
  replace hb2 := hb2.keep0 k5
  replace hb3 := hb3.keep0 k5
  replace hB := hB.trans k5
  clear eb4 z4
  refine ow_d0 (d_sta ty26 rfl rfl rfl ivF_one hb3 rfl) ?_
  rintro _ w6 ⟨hb5, k6, z5⟩
  replace hb1 := hb1.keep k6 (fun hm => absurd (List.mem_singleton.1 hm) ne_b1_b3)
  replace hb2 := hb2.keep k6 (fun hm => absurd (List.mem_singleton.1 hm) ne_b2_b3)
  replace hb4 := hb4.keep k6 (fun hm => absurd (List.mem_singleton.1 hm) (Ne.symm ne_b3_b4))
  replace hB := hB.new k6 (fun x hx => .inl ((List.mem_singleton.1 hx) ▸ ge_b3))
  clear z5
  replace hb5 : Bk w6 b3 _ [.int .u64 (gg1 0), .int .u64 (gg1 1), .int .u64 (gg1 2), .int .u64 (gg1 3), .int .u64 (gg1 4)] := hb5
  refine ow_d0 (d_sta ty26 rfl rfl rfl ivF_one hb4 rfl) ?_
  rintro _ w7 ⟨hb6, k7, z6⟩
  replace hb1 := hb1.keep k7 (fun hm => absurd (List.mem_singleton.1 hm) ne_b1_b4)
  replace hb2 := hb2.keep k7 (fun hm => absurd (List.mem_singleton.1 hm) ne_b2_b4)
  replace hb5 := hb5.keep k7 (fun hm => absurd (List.mem_singleton.1 hm) ne_b3_b4)
  replace hB := hB.new k7 (fun x hx => .inl ((List.mem_singleton.1 hx) ▸ ge_b4))
  clear z6
  replace hb6 : Bk w7 b4 _ [.int .u64 (hh1 0), .int .u64 (hh1 1), .int .u64 (hh1 2), .int .u64 (hh1 3), .int .u64 (hh1 4)] := hb6
  refine ow_nil ?_
  refine tw_keep [(2, _), (3, _), (4, _)] ⟨rfl, rfl, rfl, trivial⟩ ?_
  refine tw_seq ?_
  refine tw_plan 4 [0, 2, 1, 3] [1, 3] [] mixed [(3, _), (4, _), (2, _)] ⟨rfl, rfl, rfl, trivial⟩ (by decide +kernel) rfl (fun w8 k8 => ?_)
  replace hb1 := hb1.keep0 k8
  replace hb2 := hb2.keep0 k8
  replace hb5 := hb5.keep0 k8
  replace hb6 := hb6.keep0 k8
  replace hB := hB.trans k8
  refine pw_g [(3, _)] rfl rfl ⟨rfl, trivial⟩ rfl (fun W' kk => g_ldab (cs' := [_, _, _, _, _]) ag26 ty26 rfl (Bk.keep0 hb5 kk) rfl rfl) ?_
  refine pw_g [(4, _)] rfl rfl ⟨rfl, trivial⟩ rfl (fun W' kk => g_ldab (cs' := [_, _, _, _, _]) ag26 ty26 rfl (Bk.keep0 hb6 kk) rfl rfl) ?_
  refine pw_d [(10, _)] rfl rfl ⟨rfl, trivial⟩ rfl (d_call (vs := [_, _]) rfl (squares_any _ _ _ E1 (by decide) _)) ?_
  rintro _ w9 ⟨hh2, rfl, E2, k9⟩
  refine ⟨k9, ?_⟩
  replace hb1 := hb1.keep0 k9
  replace hb2 := hb2.keep0 k9
  replace hb5 := hb5.keep0 k9
  replace hb6 := hb6.keep0 k9
  replace hB := hB.trans k9
  replace E2 : El hh2 (fpow a 57896044618658097711785492504343953926634992332820282019728792003956564819936) := el_sq (n := 5) E2 rfl
  refine pw_d [(11, _), (12, _)] rfl rfl ⟨rfl, rfl, trivial⟩ rfl (d_call (vs := [_, _]) rfl (mul_any _ _ _ _ E2 G1 _)) ?_
  rintro _ w10 ⟨hh3, rfl, E3, k10⟩
  refine ⟨k10, ?_⟩
  replace hb1 := hb1.keep0 k10
  replace hb2 := hb2.keep0 k10
  replace hb5 := hb5.keep0 k10
  replace hb6 := hb6.keep0 k10
  replace hB := hB.trans k10
  replace E3 : El hh3 (fpow a 57896044618658097711785492504343953926634992332820282019728792003956564819947) := el_mul E3 rfl
  refine pw_nil ?_
  refine ow_d0 (d_sta ty26 rfl rfl rfl ivF_one hb2 rfl) ?_
  rintro _ w11 ⟨hb7, k11, z7⟩
  replace hb1 := hb1.keep k11 (fun hm => absurd (List.mem_singleton.1 hm) ne_b1_b2)
  replace hb5 := hb5.keep k11 (fun hm => absurd (List.mem_singleton.1 hm) (Ne.symm ne_b2_b3))
  replace hb6 := hb6.keep k11 (fun hm => absurd (List.mem_singleton.1 hm) (Ne.symm ne_b2_b4))
  replace hB := hB.new k11 (fun x hx => .inl ((List.mem_singleton.1 hx) ▸ ge_b2))
  clear z7
  replace hb7 : Bk w11 b2 _ [.int .u64 (hh3 0), .int .u64 (hh3 1), .int .u64 (hh3 2), .int .u64 (hh3 3), .int .u64 (hh3 4)] := hb7
  refine ow_nil ?_
  refine tw_keep [(2, _)] ⟨rfl, trivial⟩ ?_
  refine tw_retc hfin Try.results77 rfl (run_loadAgg ag26 ty26 (by assumption) rfl)  ?_
  exact ⟨hh3, rfl, E3, hB⟩

set_option maxRecDepth 100000 in
theorem eighth_any (f : Nat → Int) (a : Fp) (hf : El f a) (w : World) : Rets Try.prog 82 [.agg (iv .u64 5 f).toArray] w (fun v w' => ∃ h, v = .agg (iv .u64 5 h).toArray ∧ El h (fpow a 7237005577332262213973186563042994240829374041602535252466099000494570602494) ∧ Keep [] w w') := by
  have hB : Keep [] w w := Keep.refl _ _
  have hf1 := el_one hf
  refine rets_of_tw Try.func82 rfl (by decide) Try.ntmps82 rfl (fun fin _ hfin => ?_)
  refine tw_seq ?_
  refine tw_region ?_
  refine ow_d (d_box (cs := [.int .u64 (f 0), .int .u64 (f 1), .int .u64 (f 2), .int .u64 (f 3), .int .u64 (f 4)]) rfl rfl) rfl ?_
  rintro _ w1 ⟨b1, rfl, eb1, hb1, k1, z1⟩
  have ge_b1 : w.heap.size ≤ b1 := by have := hB.size; omega
  replace hB := hB.trans k1
  clear eb1 z1
  refine ow_d (d_alloc ty26) rfl ?_
  rintro _ w2 ⟨b2, rfl, eb2, hb2, k2, z2⟩
  have ge_b2 : w.heap.size ≤ b2 := by have := hB.size; omega
  have ne_b1_b2 : b1 ≠ b2 := by have := hb1.lt; omega
  replace hb1 := hb1.keep0 k2
  replace hB := hB.trans k2
  clear eb2 z2
  refine ow_nil ?_
  refine tw_keep [(1, _), (2, _)] ⟨rfl, rfl, trivial⟩ ?_
  refine tw_seq ?_
  refine tw_region ?_
  refine ow_g (g_ldab (cs' := [_, _, _, _, _]) ag26 ty26 rfl hb1 rfl rfl) rfl ?_
  refine ow_d (d_call (vs := [_]) rfl (ones_any _ _ hf1 _)) rfl ?_
  rintro _ w3 ⟨gg1, hh1, rfl, E1, G1, k3⟩
  replace hb1 := hb1.keep0 k3
  replace hb2 := hb2.keep0 k3
  replace hB := hB.trans k3
  refine ow_g (g_mv rfl) rfl ?_
  refine ow_g (g_ext (vs := [_, _]) rfl rfl) rfl ?_
  refine ow_g (g_ext (vs := [_, _]) rfl rfl) rfl ?_
  refine ow_d (d_alloc ty26) rfl ?_
  rintro _ w4 ⟨b3, rfl, eb3, hb3, k4, z3⟩
  have ge_b3 : w.heap.size ≤ b3 := by have := hB.size; omega
  have ne_b1_b3 : b1 ≠ b3 := by have := hb1.lt; omega
  have ne_b2_b3 : b2 ≠ b3 := by have := hb2.lt; omega
  replace hb1 := hb1.keep0 k4
  replace hb2 := hb2.keep0 k4
  replace hB := hB.trans k4
  clear eb3 z3
  refine ow_d (d_alloc ty26) rfl ?_
  rintro _ w5 ⟨b4, rfl, eb4, hb4, k5, z4⟩
  have ge_b4 : w.heap.size ≤ b4 := by have := hB.size; omega
  have ne_b1_b4 : b1 ≠ b4 := by have := hb1.lt; omega
  have ne_b2_b4 : b2 ≠ b4 := by have := hb2.lt; omega
  have ne_b3_b4 : b3 ≠ b4 := by have := hb3.lt; omega
  replace hb1 := hb1.keep0 k5
  replace hb2 := hb2.keep0 k5
  replace hb3 := hb3.keep0 k5
  replace hB := hB.trans k5
  clear eb4 z4
  refine ow_d0 (d_sta ty26 rfl rfl rfl ivF_one hb3 rfl) ?_
  rintro _ w6 ⟨hb5, k6, z5⟩
  replace hb1 := hb1.keep k6 (fun hm => absurd (List.mem_singleton.1 hm) ne_b1_b3)
  replace hb2 := hb2.keep k6 (fun hm => absurd (List.mem_singleton.1 hm) ne_b2_b3)
  replace hb4 := hb4.keep k6 (fun hm => absurd (List.mem_singleton.1 hm) (Ne.symm ne_b3_b4))
  replace hB := hB.new k6 (fun x hx => .inl ((List.mem_singleton.1 hx) ▸ ge_b3))
  clear z5
  replace hb5 : Bk w6 b3 _ [.int .u64 (gg1 0), .int .u64 (gg1 1), .int .u64 (gg1 2), .int .u64 (gg1 3), .int .u64 (gg1 4)] := hb5
  refine ow_d0 (d_sta ty26 rfl rfl rfl ivF_one hb4 rfl) ?_
  rintro _ w7 ⟨hb6, k7, z6⟩
  replace hb1 := hb1.keep k7 (fun hm => absurd (List.mem_singleton.1 hm) ne_b1_b4)
  replace hb2 := hb2.keep k7 (fun hm => absurd (List.mem_singleton.1 hm) ne_b2_b4)
  replace hb5 := hb5.keep k7 (fun hm => absurd (List.mem_singleton.1 hm) ne_b3_b4)
  replace hB := hB.new k7 (fun x hx => .inl ((List.mem_singleton.1 hx) ▸ ge_b4))
  clear z6
  replace hb6 : Bk w7 b4 _ [.int .u64 (hh1 0), .int .u64 (hh1 1), .int .u64 (hh1 2), .int .u64 (hh1 3), .int .u64 (hh1 4)] := hb6
  refine ow_nil ?_
  refine tw_keep [(1, _), (2, _), (3, _)] ⟨rfl, rfl, rfl, trivial⟩ ?_
  refine tw_seq ?_
  refine tw_plan 5 [0, 2, 1, 3, 4] [1, 3, 4] [] mixed [(3, _), (1, _), (2, _)] ⟨rfl, rfl, rfl, trivial⟩ (by decide +kernel) rfl (fun w8 k8 => ?_)
  replace hb1 := hb1.keep0 k8
  replace hb2 := hb2.keep0 k8
  replace hb5 := hb5.keep0 k8
  replace hb6 := hb6.keep0 k8
  replace hB := hB.trans k8
  refine pw_g [(3, _)] rfl rfl ⟨rfl, trivial⟩ rfl (fun W' kk => g_ldab (cs' := [_, _, _, _, _]) ag26 ty26 rfl (Bk.keep0 hb5 kk) rfl rfl) ?_
  refine pw_g [(1, _)] rfl rfl ⟨rfl, trivial⟩ rfl (fun W' kk => g_ldab (cs' := [_, _, _, _, _]) ag26 ty26 rfl (Bk.keep0 hb1 kk) rfl rfl) ?_
  refine pw_d [(10, _)] rfl rfl ⟨rfl, trivial⟩ rfl (d_call (vs := [_, _]) rfl (squares_any _ _ _ E1 (by decide) _)) ?_
  rintro _ w9 ⟨hh2, rfl, E2, k9⟩
  refine ⟨k9, ?_⟩
  replace hb1 := hb1.keep0 k9
  replace hb2 := hb2.keep0 k9
  replace hb5 := hb5.keep0 k9
  replace hb6 := hb6.keep0 k9
  replace hB := hB.trans k9
  replace E2 : El hh2 (fpow a 3618502788666131106986593281521497120414687020801267626233049500247285301246) := el_sq (n := 1) E2 rfl
  refine pw_d [(11, _), (12, _)] rfl rfl ⟨rfl, rfl, trivial⟩ rfl (d_call (vs := [_, _]) rfl (mul_any _ _ _ _ E2 hf1 _)) ?_
  rintro _ w10 ⟨hh3, rfl, E3, k10⟩
  refine ⟨k10, ?_⟩
  replace hb1 := hb1.keep0 k10
  replace hb2 := hb2.keep0 k10
  replace hb5 := hb5.keep0 k10
  replace hb6 := hb6.keep0 k10
  replace hB := hB.trans k10
  replace E3 : El hh3 (fpow a 3618502788666131106986593281521497120414687020801267626233049500247285301247) := el_mul E3 rfl
  refine pw_d [(13, _)] rfl rfl ⟨rfl, trivial⟩ rfl (d_call (vs := [_, _]) rfl (squares_any _ _ _ E3 (by decide) _)) ?_
  rintro _ w11 ⟨hh4, rfl, E4, k11⟩
  refine ⟨k11, ?_⟩
  replace hb1 := hb1.keep0 k11
  replace hb2 := hb2.keep0 k11
  replace hb5 := hb5.keep0 k11
  replace hb6 := hb6.keep0 k11
  replace hB := hB.trans k11
  replace E4 : El hh4 (fpow a 7237005577332262213973186563042994240829374041602535252466099000494570602494) := el_sq (n := 1) E4 rfl
  refine pw_nil ?_
  refine ow_d0 (d_sta ty26 rfl rfl rfl ivF_one hb2 rfl) ?_
  rintro _ w12 ⟨hb7, k12, z7⟩
  replace hb1 := hb1.keep k12 (fun hm => absurd (List.mem_singleton.1 hm) ne_b1_b2)
  replace hb5 := hb5.keep k12 (fun hm => absurd (List.mem_singleton.1 hm) (Ne.symm ne_b2_b3))
  replace hb6 := hb6.keep k12 (fun hm => absurd (List.mem_singleton.1 hm) (Ne.symm ne_b2_b4))
  replace hB := hB.new k12 (fun x hx => .inl ((List.mem_singleton.1 hx) ▸ ge_b2))
  clear z7
  replace hb7 : Bk w12 b2 _ [.int .u64 (hh4 0), .int .u64 (hh4 1), .int .u64 (hh4 2), .int .u64 (hh4 3), .int .u64 (hh4 4)] := hb7
  refine ow_nil ?_
  refine tw_keep [(2, _)] ⟨rfl, trivial⟩ ?_
  refine tw_retc hfin Try.results82 rfl (run_loadAgg ag26 ty26 (by assumption) rfl)  ?_
  exact ⟨hh4, rfl, E4, hB⟩

set_option maxRecDepth 100000 in
theorem minus1_any (w : World) : Rets Try.prog 84 [] w (fun v w' => ∃ h, v = .agg (iv .u64 5 h).toArray ∧ El h (fpow 2 14474011154664524427946373126085988481658748083205070504932198000989141204987) ∧ Keep [] w w') := by
  have hB : Keep [] w w := Keep.refl _ _
  have hf1 : El (vecN [2, 0, 0, 0, 0]) (fpow 2 1) := el_two
  refine rets_of_tw Try.func84 rfl (by decide) Try.ntmps84 rfl (fun fin _ hfin => ?_)
  refine tw_seq ?_
  refine tw_region ?_
  refine ow_d (d_alloc ty26) rfl ?_
  rintro _ w1 ⟨b1, rfl, eb1, hb1, k1, z1⟩
  have ge_b1 : w.heap.size ≤ b1 := by have := hB.size; omega
  replace hB := hB.trans k1
  clear eb1 z1
  refine ow_nil ?_
  refine tw_keep [(0, _)] ⟨rfl, trivial⟩ ?_
  refine tw_seq ?_
  refine tw_region ?_
  refine ow_g (g_blda (idx := [0]) (xs := [.const (.int .u64 (2))]) (vs := [_]) (css := [[.int .u64 2]]) (out := [.int .u64 2, .int .u64 0, .int .u64 0, .int .u64 0, .int .u64 0]) Try.underlying26 ty24 ty26 (arr_pls 5 1) rfl rfl ⟨rfl, trivial⟩ rfl rfl) rfl ?_
  refine ow_d (d_alloc ty26) rfl ?_
  rintro _ w2 ⟨b2, rfl, eb2, hb2, k2, z2⟩
  have ge_b2 : w.heap.size ≤ b2 := by have := hB.size; omega
  have ne_b1_b2 : b1 ≠ b2 := by have := hb1.lt; omega
  replace hb1 := hb1.keep0 k2
  replace hB := hB.trans k2
  clear eb2 z2
  refine ow_d0 (d_sta ty26 rfl rfl rfl (by simp only [List.forall_mem_cons]; refine ⟨rfl, rfl, rfl, rfl, rfl, fun v hv => by cases hv⟩) hb2 rfl) ?_
  rintro _ w3 ⟨hb3, k3, z3⟩
  replace hb1 := hb1.keep k3 (fun hm => absurd (List.mem_singleton.1 hm) ne_b1_b2)
  replace hB := hB.new k3 (fun x hx => .inl ((List.mem_singleton.1 hx) ▸ ge_b2))
  clear z3
  replace hb3 : Bk w3 b2 _ [.int .u64 2, .int .u64 0, .int .u64 0, .int .u64 0, .int .u64 0] := hb3
  refine ow_nil ?_
  refine tw_keep [(0, _), (1, _)] ⟨rfl, rfl, trivial⟩ ?_
  refine tw_seq ?_
  refine tw_region ?_
  refine ow_g (g_ldab (cs' := [_, _, _, _, _]) ag26 ty26 rfl hb3 rfl rfl) rfl ?_
  refine ow_d (d_call (vs := [_]) rfl (ones_any _ _ hf1 _)) rfl ?_
  rintro _ w4 ⟨gg1, hh1, rfl, E1, G1, k4⟩
  replace hb1 := hb1.keep0 k4
  replace hb3 := hb3.keep0 k4
  replace hB := hB.trans k4
  refine ow_g (g_mv rfl) rfl ?_
  refine ow_g (g_ext (vs := [_, _]) rfl rfl) rfl ?_
  refine ow_g (g_ext (vs := [_, _]) rfl rfl) rfl ?_
  refine ow_d (d_alloc ty26) rfl ?_
  rintro _ w5 ⟨b3, rfl, eb3, hb4, k5, z4⟩
  have ge_b3 : w.heap.size ≤ b3 := by have := hB.size; omega
  have ne_b1_b3 : b1 ≠ b3 := by have := hb1.lt; omega
  have ne_b2_b3 : b2 ≠ b3 := by have := hb3.lt; omega
  replace hb1 := hb1.keep0 k5
  replace hb3 := hb3.keep0 k5
  replace hB := hB.trans k5
  clear eb3 z4
  refine ow_d (d_alloc ty26) rfl ?_
  rintro _ w6 ⟨b4, rfl, eb4, hb5, k6, z5⟩
  have ge_b4 : w.heap.size ≤ b4 := by have := hB.size; omega
  have ne_b1_b4 : b1 ≠ b4 := by have := hb1.lt; omega
  have ne_b2_b4 : b2 ≠ b4 := by have := hb3.lt; omega
  have ne_b3_b4 : b3 ≠ b4 := by have := hb4.lt; omega
  replace hb1 := hb1.keep0 k6
  replace hb3 := hb3.keep0 k6
  replace hb4 := hb4.keep0 k6
  replace hB := hB.trans k6
  clear eb4 z5
  refine ow_d0 (d_sta ty26 rfl rfl rfl ivF_one hb4 rfl) ?_
  rintro _ w7 ⟨hb6, k7, z6⟩
  replace hb1 := hb1.keep k7 (fun hm => absurd (List.mem_singleton.1 hm) ne_b1_b3)
  replace hb3 := hb3.keep k7 (fun hm => absurd (List.mem_singleton.1 hm) ne_b2_b3)
  replace hb5 := hb5.keep k7 (fun hm => absurd (List.mem_singleton.1 hm) (Ne.symm ne_b3_b4))
  replace hB := hB.new k7 (fun x hx => .inl ((List.mem_singleton.1 hx) ▸ ge_b3))
  clear z6
  replace hb6 : Bk w7 b3 _ [.int .u64 (gg1 0), .int .u64 (gg1 1), .int .u64 (gg1 2), .int .u64 (gg1 3), .int .u64 (gg1 4)] := hb6
  refine ow_d0 (d_sta ty26 rfl rfl rfl ivF_one hb5 rfl) ?_
  rintro _ w8 ⟨hb7, k8, z7⟩
  replace hb1 := hb1.keep k8 (fun hm => absurd (List.mem_singleton.1 hm) ne_b1_b4)
  replace hb3 := hb3.keep k8 (fun hm => absurd (List.mem_singleton.1 hm) ne_b2_b4)
  replace hb6 := hb6.keep k8 (fun hm => absurd (List.mem_singleton.1 hm) ne_b3_b4)
  replace hB := hB.new k8 (fun x hx => .inl ((List.mem_singleton.1 hx) ▸ ge_b4))
  clear z7
  replace hb7 : Bk w8 b4 _ [.int .u64 (hh1 0), .int .u64 (hh1 1), .int .u64 (hh1 2), .int .u64 (hh1 3), .int .u64 (hh1 4)] := hb7
  refine ow_nil ?_
  refine tw_keep [(0, _), (1, _), (2, _)] ⟨rfl, rfl, rfl, trivial⟩ ?_
  refine tw_seq ?_
  refine tw_plan 8 [0, 2, 3, 4, 1, 5, 6, 7] [1, 5, 6, 7] [] mixed [(2, _), (1, _), (0, _)] ⟨rfl, rfl, rfl, trivial⟩ (by decide +kernel) rfl (fun w9 k9 => ?_)
  replace hb1 := hb1.keep0 k9
  replace hb3 := hb3.keep0 k9
  replace hb6 := hb6.keep0 k9
  replace hb7 := hb7.keep0 k9
  replace hB := hB.trans k9
  refine pw_g [(2, _)] rfl rfl ⟨rfl, trivial⟩ rfl (fun W' kk => g_ldab (cs' := [_, _, _, _, _]) ag26 ty26 rfl (Bk.keep0 hb6 kk) rfl rfl) ?_
  refine pw_g [(1, _)] rfl rfl ⟨rfl, trivial⟩ rfl (fun W' kk => g_ldab (cs' := [_, _, _, _, _]) ag26 ty26 rfl (Bk.keep0 hb3 kk) rfl rfl) ?_
  refine pw_g [(1, _)] rfl rfl ⟨rfl, trivial⟩ rfl (fun W' kk => g_ldab (cs' := [_, _, _, _, _]) ag26 ty26 rfl (Bk.keep0 hb3 kk) rfl rfl) ?_
  refine pw_g [(1, _)] rfl rfl ⟨rfl, trivial⟩ rfl (fun W' kk => g_ldab (cs' := [_, _, _, _, _]) ag26 ty26 rfl (Bk.keep0 hb3 kk) rfl rfl) ?_
  refine pw_d [(10, _)] rfl rfl ⟨rfl, trivial⟩ rfl (d_call (vs := [_, _]) rfl (squares_any _ _ _ E1 (by decide) _)) ?_
  rintro _ w10 ⟨hh2, rfl, E2, k10⟩
  refine ⟨k10, ?_⟩
  replace hb1 := hb1.keep0 k10
  replace hb3 := hb3.keep0 k10
  replace hb6 := hb6.keep0 k10
  replace hb7 := hb7.keep0 k10
  replace hB := hB.trans k10
  replace E2 : El hh2 (fpow 2 14474011154664524427946373126085988481658748083205070504932198000989141204984) := el_sq (n := 3) E2 rfl
  refine pw_d [(13, _), (14, _)] rfl rfl ⟨rfl, rfl, trivial⟩ rfl (d_call (vs := [_, _]) rfl (mul_any _ _ _ _ hf1 hf1 _)) ?_
  rintro _ w11 ⟨hh3, rfl, E3, k11⟩
  refine ⟨k11, ?_⟩
  replace hb1 := hb1.keep0 k11
  replace hb3 := hb3.keep0 k11
  replace hb6 := hb6.keep0 k11
  replace hb7 := hb7.keep0 k11
  replace hB := hB.trans k11
  replace E3 : El hh3 (fpow 2 2) := el_mul E3 rfl
  refine pw_d [(12, _), (15, _)] rfl rfl ⟨rfl, rfl, trivial⟩ rfl (d_call (vs := [_, _]) rfl (mul_any _ _ _ _ hf1 E3 _)) ?_
  rintro _ w12 ⟨hh4, rfl, E4, k12⟩
  refine ⟨k12, ?_⟩
  replace hb1 := hb1.keep0 k12
  replace hb3 := hb3.keep0 k12
  replace hb6 := hb6.keep0 k12
  replace hb7 := hb7.keep0 k12
  replace hB := hB.trans k12
  replace E4 : El hh4 (fpow 2 3) := el_mul E4 rfl
  refine pw_d [(11, _), (16, _)] rfl rfl ⟨rfl, rfl, trivial⟩ rfl (d_call (vs := [_, _]) rfl (mul_any _ _ _ _ E2 E4 _)) ?_
  rintro _ w13 ⟨hh5, rfl, E5, k13⟩
  refine ⟨k13, ?_⟩
  replace hb1 := hb1.keep0 k13
  replace hb3 := hb3.keep0 k13
  replace hb6 := hb6.keep0 k13
  replace hb7 := hb7.keep0 k13
  replace hB := hB.trans k13
  replace E5 : El hh5 (fpow 2 14474011154664524427946373126085988481658748083205070504932198000989141204987) := el_mul E5 rfl
  refine pw_nil ?_
  refine ow_d0 (d_sta ty26 rfl rfl rfl ivF_one hb1 rfl) ?_
  rintro _ w14 ⟨hb8, k14, z8⟩
  replace hb3 := hb3.keep k14 (fun hm => absurd (List.mem_singleton.1 hm) (Ne.symm ne_b1_b2))
  replace hb6 := hb6.keep k14 (fun hm => absurd (List.mem_singleton.1 hm) (Ne.symm ne_b1_b3))
  replace hb7 := hb7.keep k14 (fun hm => absurd (List.mem_singleton.1 hm) (Ne.symm ne_b1_b4))
  replace hB := hB.new k14 (fun x hx => .inl ((List.mem_singleton.1 hx) ▸ ge_b1))
  clear z8
  replace hb8 : Bk w14 b1 _ [.int .u64 (hh5 0), .int .u64 (hh5 1), .int .u64 (hh5 2), .int .u64 (hh5 3), .int .u64 (hh5 4)] := hb8
  refine ow_nil ?_
  refine tw_keep [(0, _)] ⟨rfl, trivial⟩ ?_
  refine tw_retc hfin Try.results84 rfl (run_loadAgg ag26 ty26 (by assumption) rfl)  ?_
  exact ⟨hh5, rfl, E5, hB⟩

end Go.Proofs.Ytkngeapegpehpaa.W
