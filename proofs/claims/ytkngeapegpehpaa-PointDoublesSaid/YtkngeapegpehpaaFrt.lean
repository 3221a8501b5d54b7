import Derived.Test.YtkngeapegpehpaaFnu
namespace Go.Proofs.Ytkngeapegpehpaa.W
open Go Go.Eng Go.Byt
set_option linter.unusedVariables false
set_option linter.unusedSimpArgs false
open Go.Fld Go.Ed
set_option maxRecDepth 100000 in
set_option maxHeartbeats 1000000 in
theorem small_any (n : Int) (hn : In n 0 18446744073709551615) (w : World) : Rets Try.prog 69 [.int .u64 n] w (fun v w' => ∃ h, v = .agg (iv .u64 5 h).toArray ∧ El h (fp n) ∧ Keep [] w w') := by
  have hB : Keep [] w w := Keep.refl _ _
  refine rets_of_tw Try.func69 rfl (by decide) Try.ntmps69 rfl (fun fin _ hfin => ?_)
  refine tw_seq ?_
  refine tw_region ?_
  refine ow_d (d_alloc ty28) rfl ?_
  rintro _ w1 ⟨b1, rfl, eb1, hb1, k1, z1⟩
  have ge_b1 : w.heap.size ≤ b1 := by have := hB.size; omega
  replace hB := hB.trans k1
  clear eb1 z1
  refine ow_nil ?_
  refine tw_keep [(0, _), (2, _)] ⟨rfl, rfl, trivial⟩ ?_
  refine tw_seq ?_
  refine tw_region ?_
  refine ow_g (g_mv rfl) rfl ?_
  refine ow_gx (e' := n % 2251799813685248) (lo := 0) (hi := 2251799813685247) (g_and rfl rfl) (and_mod 51 hn rfl rfl rfl rfl rfl rfl) (In.wk (in_mod _ (by decide)) rfl) rfl (fun z2 h1 r1 => ?_)
  refine ow_g (g_mv rfl) rfl ?_
  refine ow_gx (e' := n / 2251799813685248) (lo := 0) (hi := 8191) (g_shrp (m := 2251799813685248) rfl rfl (by decide) rfl) (rfl) (In.wk (in_div hn (by decide)) rfl) rfl (fun z3 h2 r2 => ?_)
  refine ow_g (g_blda (idx := [0, 1]) (xs := [.tmp 4, .tmp 6]) (vs := [_, _]) (css := [[.int .u64 z2], [.int .u64 z3]]) (out := [.int .u64 z2, .int .u64 z3, .int .u64 0, .int .u64 0, .int .u64 0]) Try.underlying26 ty24 ty26 (arr_pls 5 1) rfl rfl ⟨rfl, rfl, trivial⟩ rfl rfl) rfl ?_
  refine ow_g (g_bld (idx := [0]) (xs := [.tmp 7]) (vs := [_]) (css := [[_, _, _, _, _]]) (out := [_, _, _, _, _]) pl28 ty28 rfl rfl ⟨rfl, trivial⟩ rfl rfl) rfl ?_
  refine ow_d0 (d_sta ty28 rfl rfl rfl (by simp only [List.forall_mem_cons]; refine ⟨rfl, rfl, rfl, rfl, rfl, fun v hv => by cases hv⟩) hb1 rfl) ?_
  rintro _ w2 ⟨hb2, k2, z4⟩
  replace hB := hB.new k2 (fun x hx => .inl ((List.mem_singleton.1 hx) ▸ ge_b1))
  clear z4
  replace hb2 : Bk w2 b1 _ [.int .u64 z2, .int .u64 z3, .int .u64 0, .int .u64 0, .int .u64 0] := hb2
  refine ow_nil ?_
  refine tw_keep [(2, _)] ⟨rfl, trivial⟩ ?_
  refine tw_retc hfin Try.results69 rfl (run_loadAgg ag28 ty28 (by assumption) rfl)  ?_
  simp only [Eqn, In] at h1 r1 h2 r2 hn
  exact ⟨(vecN [z2, z3, 0, 0, 0]), rfl, ⟨by show In z2 _ _; unfold In; omega, by show In z3 _ _; unfold In; omega, (by show In 0 _ _; decide), (by show In 0 _ _; decide), (by show In 0 _ _; decide), by refine (fp_eq (b := n) 0 ?_); show z2 + z3 * 2251799813685248 + 0 * _ + 0 * _ + 0 * _ = _; omega⟩, hB⟩

set_option maxRecDepth 100000 in
set_option maxHeartbeats 1000000 in
theorem Small_any (n : Int) (hn : In n 0 9223372036854775807) (w : World) : Rets Try.prog 36 [.int .i64 n] w (fun v w' => ∃ h, v = .agg (iv .u64 5 h).toArray ∧ El h (fp n) ∧ Keep [] w w') := by
  have hB : Keep [] w w := Keep.refl _ _
  refine rets_of_tw Try.func36 rfl (by decide) Try.ntmps36 rfl (fun fin _ hfin => ?_)
  refine tw_seq ?_
  refine tw_region ?_
  refine ow_d (d_alloc ty28) rfl ?_
  rintro _ w1 ⟨b1, rfl, eb1, hb1, k1, z1⟩
  have ge_b1 : w.heap.size ≤ b1 := by have := hB.size; omega
  replace hB := hB.trans k1
  clear eb1 z1
  refine ow_nil ?_
  refine tw_keep [(0, _), (2, _)] ⟨rfl, rfl, trivial⟩ ?_
  refine tw_seq ?_
  refine tw_seq ?_
  refine tw_region ?_
  refine ow_g (g_mv rfl) rfl ?_
  refine ow_g (g_lt rfl rfl) rfl ?_
  refine ow_nil ?_
  refine tw_keep [(0, _), (2, _), (4, _)] ⟨rfl, rfl, rfl, trivial⟩ ?_
  refine tw_ifF rfl (by have := hn.1; omega) ?_
  refine tw_skip ?_
  refine tw_seq ?_
  refine tw_region ?_
  refine ow_g (g_mv rfl) rfl ?_
  refine ow_gx (e' := n) (lo := 0) (hi := 9223372036854775807) (g_cv (by rw [Try.underlying3]; rfl) Try.underlying24 rfl) (wrap_fit hn rfl) (hn) rfl (fun z2 h1 r1 => ?_)
  refine ow_d (d_call (vs := [_]) rfl (small_any _ (In.wk r1 rfl) _)) rfl ?_
  rintro _ w2 ⟨hh1, rfl, E1, k2⟩
  replace hb1 := hb1.keep0 k2
  replace hB := hB.trans k2
  refine ow_d0 (d_sta ty28 rfl rfl rfl ivF_one hb1 rfl) ?_
  rintro _ w3 ⟨hb2, k3, z3⟩
  replace hB := hB.new k3 (fun x hx => .inl ((List.mem_singleton.1 hx) ▸ ge_b1))
  clear z3
  replace hb2 : Bk w3 b1 _ [.int .u64 (hh1 0), .int .u64 (hh1 1), .int .u64 (hh1 2), .int .u64 (hh1 3), .int .u64 (hh1 4)] := hb2
  refine ow_nil ?_
  refine tw_keep [(2, _)] ⟨rfl, trivial⟩ ?_
  refine tw_retc hfin Try.results36 rfl (run_loadAgg ag28 ty28 (by assumption) rfl)  ?_
  exact ⟨hh1, rfl, (by have e : z2 = n := (by unfold Eqn at *; assumption); rw [e] at E1; exact E1), hB⟩

set_option maxRecDepth 100000 in
set_option maxHeartbeats 1000000 in
theorem from_any (v : Value) (xs : List UInt8) (w : World) (hv : RdB w v xs) (hx : xs.length = 32) : Rets Try.prog 33 [v] w (fun v w' => ∃ h, v = .tuple #[.agg (iv .u64 5 h).toArray, .int .i64 0] ∧ El h (fp (leI xs)) ∧ Keep [] w w') := by
  have hB : Keep [] w w := Keep.refl _ _
  refine rets_of_tw Try.func33 rfl (by decide) Try.ntmps33 rfl (fun fin _ hfin => ?_)
  refine tw_seq ?_
  refine tw_region ?_
  refine ow_d (d_alloc ty28) rfl ?_
  rintro _ w1 ⟨b1, rfl, eb1, hb1, k1, z1⟩
  have ge_b1 : w.heap.size ≤ b1 := by have := hB.size; omega
  replace hB := hB.trans k1
  clear eb1 z1
  refine ow_g (g_as rfl) rfl ?_
  refine ow_nil ?_
  refine tw_keep [(0, _), (2, _)] ⟨rfl, rfl, trivial⟩ ?_
  refine tw_seq ?_
  refine tw_seq ?_
  refine tw_region ?_
  refine ow_g (g_mv rfl) rfl ?_
  refine ow_g (g_len Try.underlying22 rfl (by first | assumption | exact Own.rd (by assumption) | exact Rd.keep0 (by assumption) hB | exact Own.rd (Own.keep0 (by assumption) hB))) rfl ?_
  refine ow_g (g_ne rfl rfl) rfl ?_
  refine ow_nil ?_
  refine tw_keep [(0, _), (2, _), (6, _)] ⟨rfl, rfl, rfl, trivial⟩ ?_
  refine tw_ifF rfl (by omega) ?_
  refine tw_skip ?_
  refine tw_seq ?_
  refine tw_region ?_
  refine ow_g (g_mv rfl) rfl ?_
  refine ow_d (d_call (vs := [_]) rfl (get_any _ xs _ (by first | assumption | exact Own.rd (by assumption) | exact Rd.keep0 (by assumption) hB | exact Own.rd (Own.keep0 (by assumption) hB)) hx)) rfl ?_
  rintro _ w2 ⟨hh1, rfl, E1, k2⟩
  replace hb1 := hb1.keep0 k2
  replace hB := hB.trans k2
  refine ow_g (g_bld (idx := [0]) (xs := [.tmp 9]) (vs := [_]) (css := [[_, _, _, _, _]]) (out := [_, _, _, _, _]) pl28 ty28 rfl rfl ⟨rfl, trivial⟩ rfl rfl) rfl ?_
  refine ow_d0 (d_sta ty28 rfl rfl rfl (by simp only [List.forall_mem_cons]; refine ⟨rfl, rfl, rfl, rfl, rfl, fun v hv => by cases hv⟩) hb1 rfl) ?_
  rintro _ w3 ⟨hb2, k3, z2⟩
  replace hB := hB.new k3 (fun x hx => .inl ((List.mem_singleton.1 hx) ▸ ge_b1))
  clear z2
  replace hb2 : Bk w3 b1 _ [.int .u64 (hh1 0), .int .u64 (hh1 1), .int .u64 (hh1 2), .int .u64 (hh1 3), .int .u64 (hh1 4)] := hb2
  refine ow_g (g_as rfl) rfl ?_
  refine ow_nil ?_
  refine tw_keep [(2, _), (3, _)] ⟨rfl, rfl, trivial⟩ ?_
  refine tw_retct hfin Try.results33 rfl (run_loadAgg ag28 ty28 (by assumption) rfl) rfl ?_
  exact ⟨hh1, rfl, E1, hB⟩

def root0 (q : Fp) : Fp := fpow q 7237005577332262213973186563042994240829374041602535252466099000494570602494
def root1 (q : Fp) : Fp := if root0 q * root0 q = q then root0 q else root0 q * fpow 2 14474011154664524427946373126085988481658748083205070504932198000989141204987
def rootOk (u v : Fp) : Bool := decide (root1 (u * inv v) * root1 (u * inv v) = u * inv v) && !(decide (v = 0) && !decide (u = 0))
def oddF (x : Fp) : Prop := x.val % 2 = 1
instance (x : Fp) : Decidable (oddF x) := inferInstanceAs (Decidable (x.val % 2 = 1))
def rootF (u v : Fp) : Fp := bif rootOk u v then (if oddF (root1 (u * inv v)) then 0 - root1 (u * inv v) else root1 (u * inv v)) else 0
theorem root1_T {q : Fp} (h : ¬ fpow q 7237005577332262213973186563042994240829374041602535252466099000494570602494 * fpow q 7237005577332262213973186563042994240829374041602535252466099000494570602494 = q) : root1 q = fpow q 7237005577332262213973186563042994240829374041602535252466099000494570602494 * fpow 2 14474011154664524427946373126085988481658748083205070504932198000989141204987 := if_neg h
theorem root1_F {q : Fp} (h : ¬¬ fpow q 7237005577332262213973186563042994240829374041602535252466099000494570602494 * fpow q 7237005577332262213973186563042994240829374041602535252466099000494570602494 = q) : root1 q = fpow q 7237005577332262213973186563042994240829374041602535252466099000494570602494 := if_pos (Decidable.of_not_not h)
theorem rootS_F {a b r : Fp} (hr : root1 (a * inv b) = r) (h : (decide ¬ r * r = a * inv b || decide (b = 0) && decide ¬ a = 0) = true) : rootOk a b = false := by
  subst hr
  unfold rootOk
  by_cases h1 : root1 (a * inv b) * root1 (a * inv b) = a * inv b
  · by_cases h2 : b = 0
    · by_cases h3 : a = 0
      · rw [decide_eq_false (not_not_intro h1), decide_eq_true h2, decide_eq_false (not_not_intro h3)] at h; cases h
      · rw [decide_eq_true h1, decide_eq_true h2, decide_eq_false h3]; rfl
    · rw [decide_eq_false (not_not_intro h1), decide_eq_false h2] at h; cases h
  · rw [decide_eq_false h1]; rfl
theorem rootS_T {a b r : Fp} (hr : root1 (a * inv b) = r) (h : (decide ¬ r * r = a * inv b || decide (b = 0) && decide ¬ a = 0) = false) : rootOk a b = true := by
  subst hr
  unfold rootOk
  by_cases h1 : root1 (a * inv b) * root1 (a * inv b) = a * inv b
  · by_cases h2 : b = 0
    · by_cases h3 : a = 0
      · rw [decide_eq_true h1, decide_eq_true h2, decide_eq_true h3]; rfl
      · rw [decide_eq_true h2, decide_eq_true h3, Bool.and_self, Bool.or_true] at h; cases h
    · rw [decide_eq_true h1, decide_eq_false h2]; rfl
  · rw [decide_eq_true h1] at h; cases h
theorem odd0 (x : Fp) : bits .and .u8 (gb (fpB x) 0) 1 = 1 ↔ oddF x := by
  have g := gb_range (fpB x) 0
  rw [and_mod (k := .u8) (a := 0) (b := 255) 1 (c := 1) (m := 2) g rfl rfl rfl rfl rfl rfl]
  have e : gb (fpB x) 0 = (x.val : Int) % 256 := by
    show (((UInt8.ofNat ((x.val : Int) % 256).toNat).toNat : Nat) : Int) = _
    have : (UInt8.ofNat ((x.val : Int) % 256).toNat).toNat = ((x.val : Int) % 256).toNat := by simp; omega
    rw [this]; omega
  rw [e]; unfold oddF; omega
theorem rootF_F {a b : Fp} (h : rootOk a b = false) : rootF a b = 0 := by unfold rootF; rw [h]; rfl
theorem rootF_odd {a b r : Fp} (h : rootOk a b = true) (hr : root1 (a * inv b) = r) (ho : bits .and .u8 (gb (fpB r) 0) 1 = 1) : rootF a b = 0 - r := by
  subst hr; unfold rootF; rw [h, cond_true, if_pos ((odd0 _).mp ho)]
theorem rootF_even {a b r : Fp} (h : rootOk a b = true) (hr : root1 (a * inv b) = r) (ho : ¬ bits .and .u8 (gb (fpB r) 0) 1 = 1) : rootF a b = r := by
  subst hr; unfold rootF; rw [h, cond_true, if_neg (fun c => ho ((odd0 _).mpr c))]
set_option maxRecDepth 100000 in
set_option maxHeartbeats 1000000 in
theorem root_any (f g : Nat → Int) (a b : Fp) (hf : El f a) (hg : El g b) (w : World) : Rets Try.prog 71 [.agg (iv .u64 5 f).toArray, .agg (iv .u64 5 g).toArray] w (fun v w' => ∃ h, v = .tuple #[.agg (iv .u64 5 h).toArray, .bool (rootOk a b)] ∧ El h (rootF a b) ∧ Keep [] w w') := by
  have hB : Keep [] w w := Keep.refl _ _
  refine rets_of_tw Try.func71 rfl (by decide) Try.ntmps71 rfl (fun fin _ hfin => ?_)
  refine tw_seq ?_
  refine tw_region ?_
  refine ow_d (d_box (cs := [.int .u64 (f 0), .int .u64 (f 1), .int .u64 (f 2), .int .u64 (f 3), .int .u64 (f 4)]) rfl rfl) rfl ?_
  rintro _ w1 ⟨b1, rfl, eb1, hb1, k1, z1⟩
  have ge_b1 : w.heap.size ≤ b1 := by have := hB.size; omega
  replace hB := hB.trans k1
  clear eb1 z1
  refine ow_d (d_box (cs := [.int .u64 (g 0), .int .u64 (g 1), .int .u64 (g 2), .int .u64 (g 3), .int .u64 (g 4)]) rfl rfl) rfl ?_
  rintro _ w2 ⟨b2, rfl, eb2, hb2, k2, z2⟩
  have ge_b2 : w.heap.size ≤ b2 := by have := hB.size; omega
  have ne_b1_b2 : b1 ≠ b2 := by have := hb1.lt; omega
  replace hb1 := hb1.keep0 k2
  replace hB := hB.trans k2
  clear eb2 z2
  refine ow_d (d_alloc ty26) rfl ?_
  rintro _ w3 ⟨b3, rfl, eb3, hb3, k3, z3⟩
  have ge_b3 : w.heap.size ≤ b3 := by have := hB.size; omega
  have ne_b1_b3 : b1 ≠ b3 := by have := hb1.lt; omega
  have ne_b2_b3 : b2 ≠ b3 := by have := hb2.lt; omega
  replace hb1 := hb1.keep0 k3
  replace hb2 := hb2.keep0 k3
  replace hB := hB.trans k3
  clear eb3 z3
  refine ow_g (g_as rfl) rfl ?_
  refine ow_nil ?_
  refine tw_keep [(2, _), (3, _), (4, _)] ⟨rfl, rfl, rfl, trivial⟩ ?_
  refine tw_seq ?_
  have gs1 := hB.size
  have lt1 := hb1.lt
  have lt2 := hb2.lt
  have lt3 := hb3.lt
  refine tw_planA 5 [0, 1, 2, 3] [2, 3] [] [(4, 26, [.int .u64 0, .int .u64 0, .int .u64 0, .int .u64 0, .int .u64 0])] mixed [(2, _), (3, _), (4, _)] ⟨rfl, rfl, rfl, trivial⟩ (by decide +kernel) (by decide) (by decide) ?_ (fun x hx => by cases hx) rfl (fun w4 k4 => ?_)
  · simp only [List.forall_mem_cons]; exact ⟨⟨_, _, _, _, _, _, rfl, ty26⟩, fun q hq => by cases hq⟩
  replace hb1 := hb1.keep0 k4
  replace hb2 := hb2.keep0 k4
  replace hb3 := hb3.keep0 k4
  replace hB := hB.trans k4
  refine pa_g [(2, _)] rfl rfl ⟨rfl, trivial⟩ rfl (fun W' kk => g_ldab (cs' := [_, _, _, _, _]) ag26 ty26 rfl (Bk.keep0 hb1 kk) rfl rfl) ?_
  refine pa_g [(3, _)] rfl rfl ⟨rfl, trivial⟩ rfl (fun W' kk => g_ldab (cs' := [_, _, _, _, _]) ag26 ty26 rfl (Bk.keep0 hb2 kk) rfl rfl) ?_
  refine pa_d [(9, _)] rfl rfl ⟨rfl, trivial⟩ rfl (fun w6 k6 => ?_)
  replace hb1 := hb1.keep0 k6
  replace hb2 := hb2.keep0 k6
  replace hb3 := hb3.keep0 k6
  replace hB := hB.trans k6
  refine (d_call (vs := [_]) rfl (inv_any _ _ hg _)).mono ?_
  rintro _ w5 ⟨hh1, rfl, E1, k5⟩
  refine ⟨k5, (fun x hx => by have hx : x ∈ ([] : List Nat) := hx; cases hx), ?_⟩
  replace hb1 := hb1.keep0 k5
  replace hb2 := hb2.keep0 k5
  replace hb3 := hb3.keep0 k5
  replace hB := hB.trans k5
  refine pa_d [(8, _), (10, _)] rfl rfl ⟨rfl, rfl, trivial⟩ rfl (fun w8 k8 => ?_)
  replace hb1 := hb1.keep0 k8
  replace hb2 := hb2.keep0 k8
  replace hb3 := hb3.keep0 k8
  replace hB := hB.trans k8
  refine (d_call (vs := [_, _]) rfl (mul_any _ _ _ _ hf E1 _)).mono ?_
  rintro _ w7 ⟨hh2, rfl, E2, k7⟩
  refine ⟨k7, (fun x hx => by have hx : x ∈ ([] : List Nat) := hx; cases hx), ?_⟩
  replace hb1 := hb1.keep0 k7
  replace hb2 := hb2.keep0 k7
  replace hb3 := hb3.keep0 k7
  replace hB := hB.trans k7
  refine pa_nil (fun w9 k9 => ?_)
  replace hb1 := hb1.keep0 k9
  replace hb2 := hb2.keep0 k9
  replace hb3 := hb3.keep0 k9
  replace hB := hB.trans k9
  intro b4 eb4 lb1 hb4 ds1 sp1
  have ge_b4 : w.heap.size ≤ b4 := Nat.le_trans gs1 eb4
  have ne_b1_b4 : b1 ≠ b4 := Nat.ne_of_lt (Nat.lt_of_lt_of_le lt1 eb4)
  have ne_b2_b4 : b2 ≠ b4 := Nat.ne_of_lt (Nat.lt_of_lt_of_le lt2 eb4)
  have ne_b3_b4 : b3 ≠ b4 := Nat.ne_of_lt (Nat.lt_of_lt_of_le lt3 eb4)
  refine fina_nil ?_
  refine ow_d0 (d_sta ty26 rfl rfl rfl ivF_one hb4 rfl) ?_
  rintro _ w10 ⟨hb5, k10, z4⟩
  replace hb1 := hb1.keep k10 (fun hm => absurd (List.mem_singleton.1 hm) ne_b1_b4)
  replace hb2 := hb2.keep k10 (fun hm => absurd (List.mem_singleton.1 hm) ne_b2_b4)
  replace hb3 := hb3.keep k10 (fun hm => absurd (List.mem_singleton.1 hm) ne_b3_b4)
  replace hB := hB.new k10 (fun x hx => .inl ((List.mem_singleton.1 hx) ▸ ge_b4))
  clear z4
  replace hb5 : Bk w10 b4 _ [.int .u64 (hh2 0), .int .u64 (hh2 1), .int .u64 (hh2 2), .int .u64 (hh2 3), .int .u64 (hh2 4)] := hb5
  refine ow_nil ?_
  refine tw_keep [(2, _), (3, _), (4, _), (6, _)] ⟨rfl, rfl, rfl, rfl, trivial⟩ ?_
  refine tw_seq ?_
  refine tw_region ?_
  refine ow_g (g_ldab (cs' := [_, _, _, _, _]) ag26 ty26 rfl hb5 rfl rfl) rfl ?_
  refine ow_d (d_call (vs := [_]) rfl (eighth_any _ _ E2 _)) rfl ?_
  rintro _ w11 ⟨hh3, rfl, E3, k11⟩
  replace hb1 := hb1.keep0 k11
  replace hb2 := hb2.keep0 k11
  replace hb3 := hb3.keep0 k11
  replace hb5 := hb5.keep0 k11
  replace hB := hB.trans k11
  refine ow_d (d_alloc ty26) rfl ?_
  rintro _ w12 ⟨b5, rfl, eb5, hb6, k12, z5⟩
  have ge_b5 : w.heap.size ≤ b5 := by have := hB.size; omega
  have ne_b1_b5 : b1 ≠ b5 := by have := hb1.lt; omega
  have ne_b2_b5 : b2 ≠ b5 := by have := hb2.lt; omega
  have ne_b3_b5 : b3 ≠ b5 := by have := hb3.lt; omega
  have ne_b4_b5 : b4 ≠ b5 := by have := hb5.lt; omega
  replace hb1 := hb1.keep0 k12
  replace hb2 := hb2.keep0 k12
  replace hb3 := hb3.keep0 k12
  replace hb5 := hb5.keep0 k12
  replace hB := hB.trans k12
  clear eb5 z5
  refine ow_d0 (d_sta ty26 rfl rfl rfl ivF_one hb6 rfl) ?_
  rintro _ w13 ⟨hb7, k13, z6⟩
  replace hb1 := hb1.keep k13 (fun hm => absurd (List.mem_singleton.1 hm) ne_b1_b5)
  replace hb2 := hb2.keep k13 (fun hm => absurd (List.mem_singleton.1 hm) ne_b2_b5)
  replace hb3 := hb3.keep k13 (fun hm => absurd (List.mem_singleton.1 hm) ne_b3_b5)
  replace hb5 := hb5.keep k13 (fun hm => absurd (List.mem_singleton.1 hm) ne_b4_b5)
  replace hB := hB.new k13 (fun x hx => .inl ((List.mem_singleton.1 hx) ▸ ge_b5))
  clear z6
  replace hb7 : Bk w13 b5 _ [.int .u64 (hh3 0), .int .u64 (hh3 1), .int .u64 (hh3 2), .int .u64 (hh3 3), .int .u64 (hh3 4)] := hb7
  refine ow_nil ?_
  refine tw_keep [(2, _), (3, _), (4, _), (6, _), (7, _)] ⟨rfl, rfl, rfl, rfl, rfl, trivial⟩ ?_
  refine tw_seq ?_
  refine tw_seq ?_
  refine tw_plan 6 [0, 1, 3, 2, 4, 5] [2, 4] [] mixed [(7, _), (6, _), (2, _), (3, _), (4, _)] ⟨rfl, rfl, rfl, rfl, rfl, trivial⟩ (by decide +kernel) rfl (fun w14 k14 => ?_)
  replace hb1 := hb1.keep0 k14
  replace hb2 := hb2.keep0 k14
  replace hb3 := hb3.keep0 k14
  replace hb5 := hb5.keep0 k14
  replace hb7 := hb7.keep0 k14
  replace hB := hB.trans k14
  refine pw_g [(7, _)] rfl rfl ⟨rfl, trivial⟩ rfl (fun W' kk => g_ldab (cs' := [_, _, _, _, _]) ag26 ty26 rfl (Bk.keep0 hb7 kk) rfl rfl) ?_
  refine pw_g [(7, _)] rfl rfl ⟨rfl, trivial⟩ rfl (fun W' kk => g_ldab (cs' := [_, _, _, _, _]) ag26 ty26 rfl (Bk.keep0 hb7 kk) rfl rfl) ?_
  refine pw_g [(6, _)] rfl rfl ⟨rfl, trivial⟩ rfl (fun W' kk => g_ldab (cs' := [_, _, _, _, _]) ag26 ty26 rfl (Bk.keep0 hb5 kk) rfl rfl) ?_
  refine pw_d [(14, _), (15, _)] rfl rfl ⟨rfl, rfl, trivial⟩ rfl (d_call (vs := [_, _]) rfl (mul_any _ _ _ _ E3 E3 _)) ?_
  rintro _ w15 ⟨hh4, rfl, E4, k15⟩
  refine ⟨k15, ?_⟩
  replace hb1 := hb1.keep0 k15
  replace hb2 := hb2.keep0 k15
  replace hb3 := hb3.keep0 k15
  replace hb5 := hb5.keep0 k15
  replace hb7 := hb7.keep0 k15
  replace hB := hB.trans k15
  refine pw_d [(16, _), (17, _)] rfl rfl ⟨rfl, rfl, trivial⟩ rfl (d_call (vs := [_, _]) rfl (same_any _ _ _ _ E4 E2 _)) ?_
  rintro _ w16 ⟨rfl, k16⟩
  refine ⟨k16, ?_⟩
  replace hb1 := hb1.keep0 k16
  replace hb2 := hb2.keep0 k16
  replace hb3 := hb3.keep0 k16
  replace hb5 := hb5.keep0 k16
  replace hb7 := hb7.keep0 k16
  replace hB := hB.trans k16
  refine pw_g [(18, _)] rfl rfl ⟨rfl, trivial⟩ rfl (fun W' kk => g_notd rfl) ?_
  refine pw_nil ?_
  refine ow_nil ?_
  refine tw_keep [(7, _), (6, _), (2, _), (3, _), (4, _), (19, _)] ⟨rfl, rfl, rfl, rfl, rfl, rfl, trivial⟩ ?_
  refine tw_if rfl (fun hc1 => ?_) (fun hc1 => ?_)
  · -- yes
    refine tw_plan 2 [0, 1] [1] [] mixed [(7, _), (6, _), (2, _), (3, _), (4, _), (19, _)] ⟨rfl, rfl, rfl, rfl, rfl, rfl, trivial⟩ (by decide +kernel) rfl (fun w17 k17 => ?_)
    replace hb1 := hb1.keep0 k17
    replace hb2 := hb2.keep0 k17
    replace hb3 := hb3.keep0 k17
    replace hb5 := hb5.keep0 k17
    replace hb7 := hb7.keep0 k17
    replace hB := hB.trans k17
    refine pw_g [(7, _)] rfl rfl ⟨rfl, trivial⟩ rfl (fun W' kk => g_ldab (cs' := [_, _, _, _, _]) ag26 ty26 rfl (Bk.keep0 hb7 kk) rfl rfl) ?_
    refine pw_d [] rfl rfl trivial rfl (d_call (vs := []) rfl (minus1_any _)) ?_
    rintro _ w18 ⟨hh5, rfl, E5, k18⟩
    refine ⟨k18, ?_⟩
    replace hb1 := hb1.keep0 k18
    replace hb2 := hb2.keep0 k18
    replace hb3 := hb3.keep0 k18
    replace hb5 := hb5.keep0 k18
    replace hb7 := hb7.keep0 k18
    replace hB := hB.trans k18
    refine pw_nil ?_
    refine ow_d (d_call (vs := [_, _]) rfl (mul_any _ _ _ _ E3 E5 _)) rfl ?_
    rintro _ w19 ⟨hh6, rfl, E6, k19⟩
    replace hb1 := hb1.keep0 k19
    replace hb2 := hb2.keep0 k19
    replace hb3 := hb3.keep0 k19
    replace hb5 := hb5.keep0 k19
    replace hb7 := hb7.keep0 k19
    replace hB := hB.trans k19
    refine ow_d0 (d_sta ty26 rfl rfl rfl ivF_one hb7 rfl) ?_
    rintro _ w20 ⟨hb8, k20, z7⟩
    replace hb1 := hb1.keep k20 (fun hm => absurd (List.mem_singleton.1 hm) ne_b1_b5)
    replace hb2 := hb2.keep k20 (fun hm => absurd (List.mem_singleton.1 hm) ne_b2_b5)
    replace hb3 := hb3.keep k20 (fun hm => absurd (List.mem_singleton.1 hm) ne_b3_b5)
    replace hb5 := hb5.keep k20 (fun hm => absurd (List.mem_singleton.1 hm) ne_b4_b5)
    replace hB := hB.new k20 (fun x hx => .inl ((List.mem_singleton.1 hx) ▸ ge_b5))
    clear z7
    replace hb8 : Bk w20 b5 _ [.int .u64 (hh6 0), .int .u64 (hh6 1), .int .u64 (hh6 2), .int .u64 (hh6 3), .int .u64 (hh6 4)] := hb8
    refine ow_nil ?_
    refine tw_keep [(7, _), (6, _), (2, _), (3, _), (4, _)] ⟨rfl, rfl, rfl, rfl, rfl, trivial⟩ ?_
    refine tw_seq ?_
    refine tw_seq ?_
    refine tw_planA 15 [0, 1, 3, 2, 4, 5, 6, 7, 8, 9, 10, 11, 12, 13, 14] [2, 4, 8, 11] [] [] mixed [(7, _), (6, _), (3, _), (2, _), (4, _)] ⟨rfl, rfl, rfl, rfl, rfl, trivial⟩ (by decide +kernel) (by decide) (by decide) ?_ (fun x hx => by cases hx) rfl (fun w21 k21 => ?_)
    · intro q hq; cases hq
    replace hb1 := hb1.keep0 k21
    replace hb2 := hb2.keep0 k21
    replace hb3 := hb3.keep0 k21
    replace hb5 := hb5.keep0 k21
    replace hb8 := hb8.keep0 k21
    replace hB := hB.trans k21
    refine pa_g [(7, _)] rfl rfl ⟨rfl, trivial⟩ rfl (fun W' kk => g_ldab (cs' := [_, _, _, _, _]) ag26 ty26 rfl (Bk.keep0 hb8 kk) rfl rfl) ?_
    refine pa_g [(7, _)] rfl rfl ⟨rfl, trivial⟩ rfl (fun W' kk => g_ldab (cs' := [_, _, _, _, _]) ag26 ty26 rfl (Bk.keep0 hb8 kk) rfl rfl) ?_
    refine pa_g [(6, _)] rfl rfl ⟨rfl, trivial⟩ rfl (fun W' kk => g_ldab (cs' := [_, _, _, _, _]) ag26 ty26 rfl (Bk.keep0 hb5 kk) rfl rfl) ?_
    refine pa_d [(23, _), (24, _)] rfl rfl ⟨rfl, rfl, trivial⟩ rfl (fun w23 k23 => ?_)
    replace hb1 := hb1.keep0 k23
    replace hb2 := hb2.keep0 k23
    replace hb3 := hb3.keep0 k23
    replace hb5 := hb5.keep0 k23
    replace hb8 := hb8.keep0 k23
    replace hB := hB.trans k23
    refine (d_call (vs := [_, _]) rfl (mul_any _ _ _ _ E6 E6 _)).mono ?_
    rintro _ w22 ⟨hh7, rfl, E7, k22⟩
    refine ⟨k22, (fun x hx => by have hx : x ∈ ([] : List Nat) := hx; cases hx), ?_⟩
    replace hb1 := hb1.keep0 k22
    replace hb2 := hb2.keep0 k22
    replace hb3 := hb3.keep0 k22
    replace hb5 := hb5.keep0 k22
    replace hb8 := hb8.keep0 k22
    replace hB := hB.trans k22
    refine pa_d [(25, _), (26, _)] rfl rfl ⟨rfl, rfl, trivial⟩ rfl (fun w25 k25 => ?_)
    replace hb1 := hb1.keep0 k25
    replace hb2 := hb2.keep0 k25
    replace hb3 := hb3.keep0 k25
    replace hb5 := hb5.keep0 k25
    replace hb8 := hb8.keep0 k25
    replace hB := hB.trans k25
    refine (d_call (vs := [_, _]) rfl (same_any _ _ _ _ E7 E2 _)).mono ?_
    rintro _ w24 ⟨rfl, k24⟩
    refine ⟨k24, (fun x hx => by have hx : x ∈ ([] : List Nat) := hx; cases hx), ?_⟩
    replace hb1 := hb1.keep0 k24
    replace hb2 := hb2.keep0 k24
    replace hb3 := hb3.keep0 k24
    replace hb5 := hb5.keep0 k24
    replace hb8 := hb8.keep0 k24
    replace hB := hB.trans k24
    refine pa_g [(27, _)] rfl rfl ⟨rfl, trivial⟩ rfl (fun W' kk => g_notd rfl) ?_
    refine pa_g [(28, _)] rfl rfl ⟨rfl, trivial⟩ rfl (fun W' kk => g_mv rfl) ?_
    refine pa_grp 29 false rfl (fun c1 hgc1 => ?_)
    refine pa_gg [(3, _), (29, _)] [(3, _)] rfl rfl ⟨rfl, rfl, trivial⟩ rfl (grd1 rfl rfl rfl hgc1) ⟨und0 rfl, trivial⟩ (fun hw1 => (fun W' kk => g_ldab (cs' := [_, _, _, _, _]) ag26 ty26 rfl (Bk.keep0 hb2 kk) rfl rfl)) ?_
    refine pa_gdk (V := .bool (decide (b = 0))) [(29, _), (30, _)] [(30, _)] rfl rfl ⟨rfl, rfl, trivial⟩ rfl (grd1 rfl rfl rfl hgc1) ⟨und1 rfl, trivial⟩ rfl (fun W1 kk hw2 => (d_call (vs := [_]) rfl (zero_any _ _ hg _)).mono (by rintro _ w26 ⟨rfl, k26⟩; exact ⟨rfl, k26⟩)) (fun w27 k27 => ?_)
    replace hb1 := hb1.keep0 k27
    replace hb2 := hb2.keep0 k27
    replace hb3 := hb3.keep0 k27
    replace hb5 := hb5.keep0 k27
    replace hb8 := hb8.keep0 k27
    replace hB := hB.trans k27
    refine pa_gg [(29, _), (31, _)] [(31, _)] rfl rfl ⟨rfl, rfl, trivial⟩ rfl (grd1 rfl rfl rfl hgc1) ⟨und1 rfl, trivial⟩ (fun hw3 => (fun W' kk => g_mv rfl)) ?_
    refine pa_grp2 32 true rfl (fun c2 hgc2 => ?_)
    refine pa_gg [(2, _), (32, _)] [(2, _)] rfl rfl ⟨rfl, rfl, trivial⟩ rfl (grd2 rfl rfl rfl hgc2) ⟨und0 rfl, trivial⟩ (fun hw4 => (fun W' kk => g_ldab (cs' := [_, _, _, _, _]) ag26 ty26 rfl (Bk.keep0 hb1 kk) rfl rfl)) ?_
    refine pa_gdk (V := .bool (decide (a = 0))) [(32, _), (33, _)] [(33, _)] rfl rfl ⟨rfl, rfl, trivial⟩ rfl (grd2 rfl rfl rfl hgc2) ⟨und1 rfl, trivial⟩ rfl (fun W1 kk hw5 => (d_call (vs := [_]) rfl (zero_any _ _ hf _)).mono (by rintro _ w28 ⟨rfl, k28⟩; exact ⟨rfl, k28⟩)) (fun w29 k29 => ?_)
    replace hb1 := hb1.keep0 k29
    replace hb2 := hb2.keep0 k29
    replace hb3 := hb3.keep0 k29
    replace hb5 := hb5.keep0 k29
    replace hb8 := hb8.keep0 k29
    replace hB := hB.trans k29
    refine pa_gg [(32, _), (34, _)] [(34, _)] rfl rfl ⟨rfl, rfl, trivial⟩ rfl (grd2 rfl rfl rfl hgc2) ⟨und1 rfl, trivial⟩ (fun hw6 => (fun W' kk => g_notd rfl)) ?_
    refine pa_pand (dj := 0) [(29, _), (32, _), (35, _)] rfl rfl ⟨rfl, rfl, rfl, trivial⟩ rfl (grd1 rfl rfl rfl hgc1) (und1 rfl) rfl hgc2 rfl ?_
    refine pa_g [(29, _), (36, _)] rfl rfl ⟨rfl, rfl, trivial⟩ rfl (fun W' kk => g_por rfl rfl hgc1) ?_
    refine pa_nil (fun w30 k30 => ?_)
    replace hb1 := hb1.keep0 k30
    replace hb2 := hb2.keep0 k30
    replace hb3 := hb3.keep0 k30
    replace hb5 := hb5.keep0 k30
    replace hb8 := hb8.keep0 k30
    replace hB := hB.trans k30
    refine fina_nil ?_
    refine ow_nil ?_
    refine tw_keep [(7, _), (4, _), (37, _)] ⟨rfl, rfl, rfl, trivial⟩ ?_
    refine tw_cond rfl (fun hc2 => ?_) (fun hc2 => ?_)
    · -- yes
      have hd1 := hc2
      try (simp only [Bool.and_eq_true, Bool.or_eq_true, decide_eq_true_eq, Bool.and_eq_false_iff, Bool.or_eq_false_iff, decide_eq_false_iff_not, Bool.not_eq_true', Bool.not_eq_false', Bool.not_eq_true, Bool.not_eq_false, ne_eq, Decidable.not_not, decide_true, decide_false, Bool.true_and, Bool.false_and, Bool.or_false, Bool.false_or, not_true_eq_false, false_or, or_false, true_and, and_true, not_false_eq_true, reduceCtorEq] at hd1)
      refine tw_seq ?_
      refine tw_region ?_
      refine ow_g (g_blda (idx := []) (xs := []) (vs := []) (css := []) (out := [.int .u64 0, .int .u64 0, .int .u64 0, .int .u64 0, .int .u64 0]) Try.underlying26 ty24 ty26 (arr_pls 5 1) rfl rfl trivial rfl rfl) rfl ?_
      refine ow_d0 (d_sta ty26 rfl rfl rfl (by simp only [List.forall_mem_cons]; refine ⟨rfl, rfl, rfl, rfl, rfl, fun v hv => by cases hv⟩) hb3 rfl) ?_
      rintro _ w31 ⟨hb9, k31, z8⟩
      replace hb1 := hb1.keep k31 (fun hm => absurd (List.mem_singleton.1 hm) ne_b1_b3)
      replace hb2 := hb2.keep k31 (fun hm => absurd (List.mem_singleton.1 hm) ne_b2_b3)
      replace hb5 := hb5.keep k31 (fun hm => absurd (List.mem_singleton.1 hm) (Ne.symm ne_b3_b4))
      replace hb8 := hb8.keep k31 (fun hm => absurd (List.mem_singleton.1 hm) (Ne.symm ne_b3_b5))
      replace hB := hB.new k31 (fun x hx => .inl ((List.mem_singleton.1 hx) ▸ ge_b3))
      clear z8
      replace hb9 : Bk w31 b3 _ [.int .u64 0, .int .u64 0, .int .u64 0, .int .u64 0, .int .u64 0] := hb9
      refine ow_g (g_as rfl) rfl ?_
      refine ow_nil ?_
      refine tw_keep [(4, _), (5, _)] ⟨rfl, rfl, trivial⟩ ?_
      refine tw_retct hfin Try.results71 rfl (run_loadAgg ag26 ty26 (by assumption) rfl) rfl ?_
      exact ⟨vecN [0, 0, 0, 0, 0], by rw [rootS_F (root1_T hc1) hc2]; rfl, by rw [rootF_F (rootS_F (root1_T hc1) hc2)]; exact el_zero, hB⟩
    · -- no
      have hd2 := hc2
      try (simp only [Bool.and_eq_true, Bool.or_eq_true, decide_eq_true_eq, Bool.and_eq_false_iff, Bool.or_eq_false_iff, decide_eq_false_iff_not, Bool.not_eq_true', Bool.not_eq_false', Bool.not_eq_true, Bool.not_eq_false, ne_eq, Decidable.not_not, decide_true, decide_false, Bool.true_and, Bool.false_and, Bool.or_false, Bool.false_or, not_true_eq_false, false_or, or_false, true_and, and_true, not_false_eq_true, reduceCtorEq] at hd2)
      refine tw_skip ?_
      refine tw_seq ?_
      refine tw_seq ?_
      refine tw_region ?_
      refine ow_g (g_ldab (cs' := [_, _, _, _, _]) ag26 ty26 rfl hb8 rfl rfl) rfl ?_
      refine ow_d (d_call (vs := [_]) rfl (put_any _ _ E6 _)) rfl ?_
      rintro v1 w32 ⟨o1, k32⟩
      have gl_o1 := hB.size
      have sb_b1_o1 := fun x hx => (show x ≠ b1 from by have h1 := (o1.blk x hx).1; have h2 := hb1.lt; omega)
      have sb_b2_o1 := fun x hx => (show x ≠ b2 from by have h1 := (o1.blk x hx).1; have h2 := hb2.lt; omega)
      have sb_b3_o1 := fun x hx => (show x ≠ b3 from by have h1 := (o1.blk x hx).1; have h2 := hb3.lt; omega)
      have sb_b4_o1 := fun x hx => (show x ≠ b4 from by have h1 := (o1.blk x hx).1; have h2 := hb5.lt; omega)
      have sb_b5_o1 := fun x hx => (show x ≠ b5 from by have h1 := (o1.blk x hx).1; have h2 := hb8.lt; omega)
      replace hb1 := hb1.keep0 k32
      replace hb2 := hb2.keep0 k32
      replace hb3 := hb3.keep0 k32
      replace hb5 := hb5.keep0 k32
      replace hb8 := hb8.keep0 k32
      replace hB := hB.trans k32
      have u_o1 := o1.blk
      have lnv1 := fpB_length ((fpow (a * (inv b)) 7237005577332262213973186563042994240829374041602535252466099000494570602494) * (fpow 2 14474011154664524427946373126085988481658748083205070504932198000989141204987))
      refine ow_g (g_ix Try.underlying22 ty5 rfl (by first | assumption | exact Own.rd (by assumption) | exact Rd.keep0 (by assumption) hB | exact Own.rd (Own.keep0 (by assumption) hB)) rfl (by omega)) rfl ?_
      refine ow_g (g_ldB sc5 rfl (by first | assumption | exact Own.rd (by assumption) | exact Rd.keep0 (by assumption) hB | exact Own.rd (Own.keep0 (by assumption) hB)) (by omega)) rfl ?_
      refine ow_g (g_and rfl rfl) rfl ?_
      refine ow_g (g_eq rfl rfl) rfl ?_
      refine ow_nil ?_
      refine tw_keep [(7, _), (4, _), (44, _)] ⟨rfl, rfl, rfl, trivial⟩ ?_
      refine tw_if rfl (fun hc3 => ?_) (fun hc3 => ?_)
      · -- yes
        refine tw_region ?_
        refine ow_g (g_blda (idx := []) (xs := []) (vs := []) (css := []) (out := [.int .u64 0, .int .u64 0, .int .u64 0, .int .u64 0, .int .u64 0]) Try.underlying26 ty24 ty26 (arr_pls 5 1) rfl rfl trivial rfl rfl) rfl ?_
        refine ow_g (g_ldab (cs' := [_, _, _, _, _]) ag26 ty26 rfl hb8 rfl rfl) rfl ?_
        refine ow_d (d_call (vs := [_, _]) rfl (sub_any _ _ _ _ el_zero E6 _)) rfl ?_
        rintro _ w33 ⟨hh8, rfl, E8, k33⟩
        replace hb1 := hb1.keep0 k33
        replace hb2 := hb2.keep0 k33
        replace hb3 := hb3.keep0 k33
        replace hb5 := hb5.keep0 k33
        replace hb8 := hb8.keep0 k33
        replace o1 := o1.keep0 k33
        replace hB := hB.trans k33
        refine ow_d0 (d_sta ty26 rfl rfl rfl ivF_one hb8 rfl) ?_
        rintro _ w34 ⟨hb10, k34, z9⟩
        replace hb1 := hb1.keep k34 (fun hm => absurd (List.mem_singleton.1 hm) ne_b1_b5)
        replace hb2 := hb2.keep k34 (fun hm => absurd (List.mem_singleton.1 hm) ne_b2_b5)
        replace hb3 := hb3.keep k34 (fun hm => absurd (List.mem_singleton.1 hm) ne_b3_b5)
        replace hb5 := hb5.keep k34 (fun hm => absurd (List.mem_singleton.1 hm) ne_b4_b5)
        replace o1 := o1.keep k34 (fun x hx hm => sb_b5_o1 x hx (List.mem_singleton.1 hm))
        replace hB := hB.new k34 (fun x hx => .inl ((List.mem_singleton.1 hx) ▸ ge_b5))
        clear z9
        replace hb10 : Bk w34 b5 _ [.int .u64 (hh8 0), .int .u64 (hh8 1), .int .u64 (hh8 2), .int .u64 (hh8 3), .int .u64 (hh8 4)] := hb10
        refine ow_nil ?_
        refine tw_keep [(7, _), (4, _)] ⟨rfl, rfl, trivial⟩ ?_
        refine tw_seq ?_
        refine tw_region ?_
        refine ow_g (g_ldab (cs' := [_, _, _, _, _]) ag26 ty26 rfl hb10 rfl rfl) rfl ?_
        refine ow_d0 (d_sta ty26 rfl rfl rfl (by simp only [List.forall_mem_cons]; refine ⟨rfl, rfl, rfl, rfl, rfl, fun v hv => by cases hv⟩) hb3 rfl) ?_
        rintro _ w35 ⟨hb11, k35, z10⟩
        replace hb1 := hb1.keep k35 (fun hm => absurd (List.mem_singleton.1 hm) ne_b1_b3)
        replace hb2 := hb2.keep k35 (fun hm => absurd (List.mem_singleton.1 hm) ne_b2_b3)
        replace hb5 := hb5.keep k35 (fun hm => absurd (List.mem_singleton.1 hm) (Ne.symm ne_b3_b4))
        replace o1 := o1.keep k35 (fun x hx hm => sb_b3_o1 x hx (List.mem_singleton.1 hm))
        replace hb10 := hb10.keep k35 (fun hm => absurd (List.mem_singleton.1 hm) (Ne.symm ne_b3_b5))
        replace hB := hB.new k35 (fun x hx => .inl ((List.mem_singleton.1 hx) ▸ ge_b3))
        clear z10
        replace hb11 : Bk w35 b3 _ [.int .u64 (hh8 0), .int .u64 (hh8 1), .int .u64 (hh8 2), .int .u64 (hh8 3), .int .u64 (hh8 4)] := hb11
        refine ow_g (g_as rfl) rfl ?_
        refine ow_nil ?_
        refine tw_keep [(4, _), (5, _)] ⟨rfl, rfl, trivial⟩ ?_
        refine tw_retct hfin Try.results71 rfl (run_loadAgg ag26 ty26 (by assumption) rfl) rfl ?_
        exact ⟨hh8, by rw [rootS_T (root1_T hc1) hc2]; rfl, by rw [rootF_odd (rootS_T (root1_T hc1) hc2) (root1_T hc1) hc3]; exact E8, hB⟩
      · -- no
        refine tw_skip ?_
        refine tw_seq ?_
        refine tw_region ?_
        refine ow_g (g_ldab (cs' := [_, _, _, _, _]) ag26 ty26 rfl hb8 rfl rfl) rfl ?_
        refine ow_d0 (d_sta ty26 rfl rfl rfl (by simp only [List.forall_mem_cons]; refine ⟨rfl, rfl, rfl, rfl, rfl, fun v hv => by cases hv⟩) hb3 rfl) ?_
        rintro _ w36 ⟨hb12, k36, z11⟩
        replace hb1 := hb1.keep k36 (fun hm => absurd (List.mem_singleton.1 hm) ne_b1_b3)
        replace hb2 := hb2.keep k36 (fun hm => absurd (List.mem_singleton.1 hm) ne_b2_b3)
        replace hb5 := hb5.keep k36 (fun hm => absurd (List.mem_singleton.1 hm) (Ne.symm ne_b3_b4))
        replace hb8 := hb8.keep k36 (fun hm => absurd (List.mem_singleton.1 hm) (Ne.symm ne_b3_b5))
        replace o1 := o1.keep k36 (fun x hx hm => sb_b3_o1 x hx (List.mem_singleton.1 hm))
        replace hB := hB.new k36 (fun x hx => .inl ((List.mem_singleton.1 hx) ▸ ge_b3))
        clear z11
        replace hb12 : Bk w36 b3 _ [.int .u64 (hh6 0), .int .u64 (hh6 1), .int .u64 (hh6 2), .int .u64 (hh6 3), .int .u64 (hh6 4)] := hb12
        refine ow_g (g_as rfl) rfl ?_
        refine ow_nil ?_
        refine tw_keep [(4, _), (5, _)] ⟨rfl, rfl, trivial⟩ ?_
        refine tw_retct hfin Try.results71 rfl (run_loadAgg ag26 ty26 (by assumption) rfl) rfl ?_
        exact ⟨hh6, by rw [rootS_T (root1_T hc1) hc2]; rfl, by rw [rootF_even (rootS_T (root1_T hc1) hc2) (root1_T hc1) hc3]; exact E6, hB⟩
  · -- no
    refine tw_skip ?_
    refine tw_seq ?_
    refine tw_seq ?_
    refine tw_planA 15 [0, 1, 3, 2, 4, 5, 6, 7, 8, 9, 10, 11, 12, 13, 14] [2, 4, 8, 11] [] [] mixed [(7, _), (6, _), (3, _), (2, _), (4, _), (19, _)] ⟨rfl, rfl, rfl, rfl, rfl, rfl, trivial⟩ (by decide +kernel) (by decide) (by decide) ?_ (fun x hx => by cases hx) rfl (fun w37 k37 => ?_)
    · intro q hq; cases hq
    replace hb1 := hb1.keep0 k37
    replace hb2 := hb2.keep0 k37
    replace hb3 := hb3.keep0 k37
    replace hb5 := hb5.keep0 k37
    replace hb7 := hb7.keep0 k37
    replace hB := hB.trans k37
    refine pa_g [(7, _)] rfl rfl ⟨rfl, trivial⟩ rfl (fun W' kk => g_ldab (cs' := [_, _, _, _, _]) ag26 ty26 rfl (Bk.keep0 hb7 kk) rfl rfl) ?_
    refine pa_g [(7, _)] rfl rfl ⟨rfl, trivial⟩ rfl (fun W' kk => g_ldab (cs' := [_, _, _, _, _]) ag26 ty26 rfl (Bk.keep0 hb7 kk) rfl rfl) ?_
    refine pa_g [(6, _)] rfl rfl ⟨rfl, trivial⟩ rfl (fun W' kk => g_ldab (cs' := [_, _, _, _, _]) ag26 ty26 rfl (Bk.keep0 hb5 kk) rfl rfl) ?_
    refine pa_d [(23, _), (24, _)] rfl rfl ⟨rfl, rfl, trivial⟩ rfl (fun w39 k39 => ?_)
    replace hb1 := hb1.keep0 k39
    replace hb2 := hb2.keep0 k39
    replace hb3 := hb3.keep0 k39
    replace hb5 := hb5.keep0 k39
    replace hb7 := hb7.keep0 k39
    replace hB := hB.trans k39
    refine (d_call (vs := [_, _]) rfl (mul_any _ _ _ _ E3 E3 _)).mono ?_
    rintro _ w38 ⟨hh9, rfl, E9, k38⟩
    refine ⟨k38, (fun x hx => by have hx : x ∈ ([] : List Nat) := hx; cases hx), ?_⟩
    replace hb1 := hb1.keep0 k38
    replace hb2 := hb2.keep0 k38
    replace hb3 := hb3.keep0 k38
    replace hb5 := hb5.keep0 k38
    replace hb7 := hb7.keep0 k38
    replace hB := hB.trans k38
    refine pa_d [(25, _), (26, _)] rfl rfl ⟨rfl, rfl, trivial⟩ rfl (fun w41 k41 => ?_)
    replace hb1 := hb1.keep0 k41
    replace hb2 := hb2.keep0 k41
    replace hb3 := hb3.keep0 k41
    replace hb5 := hb5.keep0 k41
    replace hb7 := hb7.keep0 k41
    replace hB := hB.trans k41
    refine (d_call (vs := [_, _]) rfl (same_any _ _ _ _ E9 E2 _)).mono ?_
    rintro _ w40 ⟨rfl, k40⟩
    refine ⟨k40, (fun x hx => by have hx : x ∈ ([] : List Nat) := hx; cases hx), ?_⟩
    replace hb1 := hb1.keep0 k40
    replace hb2 := hb2.keep0 k40
    replace hb3 := hb3.keep0 k40
    replace hb5 := hb5.keep0 k40
    replace hb7 := hb7.keep0 k40
    replace hB := hB.trans k40
    refine pa_g [(27, _)] rfl rfl ⟨rfl, trivial⟩ rfl (fun W' kk => g_notd rfl) ?_
    refine pa_g [(28, _)] rfl rfl ⟨rfl, trivial⟩ rfl (fun W' kk => g_mv rfl) ?_
    refine pa_grp 29 false rfl (fun c3 hgc3 => ?_)
    refine pa_gg [(3, _), (29, _)] [(3, _)] rfl rfl ⟨rfl, rfl, trivial⟩ rfl (grd1 rfl rfl rfl hgc3) ⟨und0 rfl, trivial⟩ (fun hw7 => (fun W' kk => g_ldab (cs' := [_, _, _, _, _]) ag26 ty26 rfl (Bk.keep0 hb2 kk) rfl rfl)) ?_
    refine pa_gdk (V := .bool (decide (b = 0))) [(29, _), (30, _)] [(30, _)] rfl rfl ⟨rfl, rfl, trivial⟩ rfl (grd1 rfl rfl rfl hgc3) ⟨und1 rfl, trivial⟩ rfl (fun W1 kk hw8 => (d_call (vs := [_]) rfl (zero_any _ _ hg _)).mono (by rintro _ w42 ⟨rfl, k42⟩; exact ⟨rfl, k42⟩)) (fun w43 k43 => ?_)
    replace hb1 := hb1.keep0 k43
    replace hb2 := hb2.keep0 k43
    replace hb3 := hb3.keep0 k43
    replace hb5 := hb5.keep0 k43
    replace hb7 := hb7.keep0 k43
    replace hB := hB.trans k43
    refine pa_gg [(29, _), (31, _)] [(31, _)] rfl rfl ⟨rfl, rfl, trivial⟩ rfl (grd1 rfl rfl rfl hgc3) ⟨und1 rfl, trivial⟩ (fun hw9 => (fun W' kk => g_mv rfl)) ?_
    refine pa_grp2 32 true rfl (fun c4 hgc4 => ?_)
    refine pa_gg [(2, _), (32, _)] [(2, _)] rfl rfl ⟨rfl, rfl, trivial⟩ rfl (grd2 rfl rfl rfl hgc4) ⟨und0 rfl, trivial⟩ (fun hw10 => (fun W' kk => g_ldab (cs' := [_, _, _, _, _]) ag26 ty26 rfl (Bk.keep0 hb1 kk) rfl rfl)) ?_
    refine pa_gdk (V := .bool (decide (a = 0))) [(32, _), (33, _)] [(33, _)] rfl rfl ⟨rfl, rfl, trivial⟩ rfl (grd2 rfl rfl rfl hgc4) ⟨und1 rfl, trivial⟩ rfl (fun W1 kk hw11 => (d_call (vs := [_]) rfl (zero_any _ _ hf _)).mono (by rintro _ w44 ⟨rfl, k44⟩; exact ⟨rfl, k44⟩)) (fun w45 k45 => ?_)
    replace hb1 := hb1.keep0 k45
    replace hb2 := hb2.keep0 k45
    replace hb3 := hb3.keep0 k45
    replace hb5 := hb5.keep0 k45
    replace hb7 := hb7.keep0 k45
    replace hB := hB.trans k45
    refine pa_gg [(32, _), (34, _)] [(34, _)] rfl rfl ⟨rfl, rfl, trivial⟩ rfl (grd2 rfl rfl rfl hgc4) ⟨und1 rfl, trivial⟩ (fun hw12 => (fun W' kk => g_notd rfl)) ?_
    refine pa_pand (dj := 0) [(29, _), (32, _), (35, _)] rfl rfl ⟨rfl, rfl, rfl, trivial⟩ rfl (grd1 rfl rfl rfl hgc3) (und1 rfl) rfl hgc4 rfl ?_
    refine pa_g [(29, _), (36, _)] rfl rfl ⟨rfl, rfl, trivial⟩ rfl (fun W' kk => g_por rfl rfl hgc3) ?_
    refine pa_nil (fun w46 k46 => ?_)
    replace hb1 := hb1.keep0 k46
    replace hb2 := hb2.keep0 k46
    replace hb3 := hb3.keep0 k46
    replace hb5 := hb5.keep0 k46
    replace hb7 := hb7.keep0 k46
    replace hB := hB.trans k46
    refine fina_nil ?_
    refine ow_nil ?_
    refine tw_keep [(7, _), (4, _), (37, _)] ⟨rfl, rfl, rfl, trivial⟩ ?_
    refine tw_cond rfl (fun hc4 => ?_) (fun hc4 => ?_)
    · -- yes
      have hd3 := hc4
      try (simp only [Bool.and_eq_true, Bool.or_eq_true, decide_eq_true_eq, Bool.and_eq_false_iff, Bool.or_eq_false_iff, decide_eq_false_iff_not, Bool.not_eq_true', Bool.not_eq_false', Bool.not_eq_true, Bool.not_eq_false, ne_eq, Decidable.not_not, decide_true, decide_false, Bool.true_and, Bool.false_and, Bool.or_false, Bool.false_or, not_true_eq_false, false_or, or_false, true_and, and_true, not_false_eq_true, reduceCtorEq] at hd3)
      refine tw_seq ?_
      refine tw_region ?_
      refine ow_g (g_blda (idx := []) (xs := []) (vs := []) (css := []) (out := [.int .u64 0, .int .u64 0, .int .u64 0, .int .u64 0, .int .u64 0]) Try.underlying26 ty24 ty26 (arr_pls 5 1) rfl rfl trivial rfl rfl) rfl ?_
      refine ow_d0 (d_sta ty26 rfl rfl rfl (by simp only [List.forall_mem_cons]; refine ⟨rfl, rfl, rfl, rfl, rfl, fun v hv => by cases hv⟩) hb3 rfl) ?_
      rintro _ w47 ⟨hb13, k47, z12⟩
      replace hb1 := hb1.keep k47 (fun hm => absurd (List.mem_singleton.1 hm) ne_b1_b3)
      replace hb2 := hb2.keep k47 (fun hm => absurd (List.mem_singleton.1 hm) ne_b2_b3)
      replace hb5 := hb5.keep k47 (fun hm => absurd (List.mem_singleton.1 hm) (Ne.symm ne_b3_b4))
      replace hb7 := hb7.keep k47 (fun hm => absurd (List.mem_singleton.1 hm) (Ne.symm ne_b3_b5))
      replace hB := hB.new k47 (fun x hx => .inl ((List.mem_singleton.1 hx) ▸ ge_b3))
      clear z12
      replace hb13 : Bk w47 b3 _ [.int .u64 0, .int .u64 0, .int .u64 0, .int .u64 0, .int .u64 0] := hb13
      refine ow_g (g_as rfl) rfl ?_
      refine ow_nil ?_
      refine tw_keep [(4, _), (5, _)] ⟨rfl, rfl, trivial⟩ ?_
      refine tw_retct hfin Try.results71 rfl (run_loadAgg ag26 ty26 (by assumption) rfl) rfl ?_
      exact ⟨vecN [0, 0, 0, 0, 0], by rw [rootS_F (root1_F hc1) hc4]; rfl, by rw [rootF_F (rootS_F (root1_F hc1) hc4)]; exact el_zero, hB⟩
    · -- no
      have hd4 := hc4
      try (simp only [Bool.and_eq_true, Bool.or_eq_true, decide_eq_true_eq, Bool.and_eq_false_iff, Bool.or_eq_false_iff, decide_eq_false_iff_not, Bool.not_eq_true', Bool.not_eq_false', Bool.not_eq_true, Bool.not_eq_false, ne_eq, Decidable.not_not, decide_true, decide_false, Bool.true_and, Bool.false_and, Bool.or_false, Bool.false_or, not_true_eq_false, false_or, or_false, true_and, and_true, not_false_eq_true, reduceCtorEq] at hd4)
      refine tw_skip ?_
      refine tw_seq ?_
      refine tw_seq ?_
      refine tw_region ?_
      refine ow_g (g_ldab (cs' := [_, _, _, _, _]) ag26 ty26 rfl hb7 rfl rfl) rfl ?_
      refine ow_d (d_call (vs := [_]) rfl (put_any _ _ E3 _)) rfl ?_
      rintro v2 w48 ⟨o2, k48⟩
      have gl_o2 := hB.size
      have sb_b1_o2 := fun x hx => (show x ≠ b1 from by have h1 := (o2.blk x hx).1; have h2 := hb1.lt; omega)
      have sb_b2_o2 := fun x hx => (show x ≠ b2 from by have h1 := (o2.blk x hx).1; have h2 := hb2.lt; omega)
      have sb_b3_o2 := fun x hx => (show x ≠ b3 from by have h1 := (o2.blk x hx).1; have h2 := hb3.lt; omega)
      have sb_b4_o2 := fun x hx => (show x ≠ b4 from by have h1 := (o2.blk x hx).1; have h2 := hb5.lt; omega)
      have sb_b5_o2 := fun x hx => (show x ≠ b5 from by have h1 := (o2.blk x hx).1; have h2 := hb7.lt; omega)
      replace hb1 := hb1.keep0 k48
      replace hb2 := hb2.keep0 k48
      replace hb3 := hb3.keep0 k48
      replace hb5 := hb5.keep0 k48
      replace hb7 := hb7.keep0 k48
      replace hB := hB.trans k48
      have u_o2 := o2.blk
      have lnv2 := fpB_length (fpow (a * (inv b)) 7237005577332262213973186563042994240829374041602535252466099000494570602494)
      refine ow_g (g_ix Try.underlying22 ty5 rfl (by first | assumption | exact Own.rd (by assumption) | exact Rd.keep0 (by assumption) hB | exact Own.rd (Own.keep0 (by assumption) hB)) rfl (by omega)) rfl ?_
      refine ow_g (g_ldB sc5 rfl (by first | assumption | exact Own.rd (by assumption) | exact Rd.keep0 (by assumption) hB | exact Own.rd (Own.keep0 (by assumption) hB)) (by omega)) rfl ?_
      refine ow_g (g_and rfl rfl) rfl ?_
      refine ow_g (g_eq rfl rfl) rfl ?_
      refine ow_nil ?_
      refine tw_keep [(7, _), (4, _), (44, _)] ⟨rfl, rfl, rfl, trivial⟩ ?_
      refine tw_if rfl (fun hc5 => ?_) (fun hc5 => ?_)
      · -- yes
        refine tw_region ?_
        refine ow_g (g_blda (idx := []) (xs := []) (vs := []) (css := []) (out := [.int .u64 0, .int .u64 0, .int .u64 0, .int .u64 0, .int .u64 0]) Try.underlying26 ty24 ty26 (arr_pls 5 1) rfl rfl trivial rfl rfl) rfl ?_
        refine ow_g (g_ldab (cs' := [_, _, _, _, _]) ag26 ty26 rfl hb7 rfl rfl) rfl ?_
        refine ow_d (d_call (vs := [_, _]) rfl (sub_any _ _ _ _ el_zero E3 _)) rfl ?_
        rintro _ w49 ⟨hh10, rfl, E10, k49⟩
        replace hb1 := hb1.keep0 k49
        replace hb2 := hb2.keep0 k49
        replace hb3 := hb3.keep0 k49
        replace hb5 := hb5.keep0 k49
        replace hb7 := hb7.keep0 k49
        replace o2 := o2.keep0 k49
        replace hB := hB.trans k49
        refine ow_d0 (d_sta ty26 rfl rfl rfl ivF_one hb7 rfl) ?_
        rintro _ w50 ⟨hb14, k50, z13⟩
        replace hb1 := hb1.keep k50 (fun hm => absurd (List.mem_singleton.1 hm) ne_b1_b5)
        replace hb2 := hb2.keep k50 (fun hm => absurd (List.mem_singleton.1 hm) ne_b2_b5)
        replace hb3 := hb3.keep k50 (fun hm => absurd (List.mem_singleton.1 hm) ne_b3_b5)
        replace hb5 := hb5.keep k50 (fun hm => absurd (List.mem_singleton.1 hm) ne_b4_b5)
        replace o2 := o2.keep k50 (fun x hx hm => sb_b5_o2 x hx (List.mem_singleton.1 hm))
        replace hB := hB.new k50 (fun x hx => .inl ((List.mem_singleton.1 hx) ▸ ge_b5))
        clear z13
        replace hb14 : Bk w50 b5 _ [.int .u64 (hh10 0), .int .u64 (hh10 1), .int .u64 (hh10 2), .int .u64 (hh10 3), .int .u64 (hh10 4)] := hb14
        refine ow_nil ?_
        refine tw_keep [(7, _), (4, _)] ⟨rfl, rfl, trivial⟩ ?_
        refine tw_seq ?_
        refine tw_region ?_
        refine ow_g (g_ldab (cs' := [_, _, _, _, _]) ag26 ty26 rfl hb14 rfl rfl) rfl ?_
        refine ow_d0 (d_sta ty26 rfl rfl rfl (by simp only [List.forall_mem_cons]; refine ⟨rfl, rfl, rfl, rfl, rfl, fun v hv => by cases hv⟩) hb3 rfl) ?_
        rintro _ w51 ⟨hb15, k51, z14⟩
        replace hb1 := hb1.keep k51 (fun hm => absurd (List.mem_singleton.1 hm) ne_b1_b3)
        replace hb2 := hb2.keep k51 (fun hm => absurd (List.mem_singleton.1 hm) ne_b2_b3)
        replace hb5 := hb5.keep k51 (fun hm => absurd (List.mem_singleton.1 hm) (Ne.symm ne_b3_b4))
        replace o2 := o2.keep k51 (fun x hx hm => sb_b3_o2 x hx (List.mem_singleton.1 hm))
        replace hb14 := hb14.keep k51 (fun hm => absurd (List.mem_singleton.1 hm) (Ne.symm ne_b3_b5))
        replace hB := hB.new k51 (fun x hx => .inl ((List.mem_singleton.1 hx) ▸ ge_b3))
        clear z14
        replace hb15 : Bk w51 b3 _ [.int .u64 (hh10 0), .int .u64 (hh10 1), .int .u64 (hh10 2), .int .u64 (hh10 3), .int .u64 (hh10 4)] := hb15
        refine ow_g (g_as rfl) rfl ?_
        refine ow_nil ?_
        refine tw_keep [(4, _), (5, _)] ⟨rfl, rfl, trivial⟩ ?_
        refine tw_retct hfin Try.results71 rfl (run_loadAgg ag26 ty26 (by assumption) rfl) rfl ?_
        exact ⟨hh10, by rw [rootS_T (root1_F hc1) hc4]; rfl, by rw [rootF_odd (rootS_T (root1_F hc1) hc4) (root1_F hc1) hc5]; exact E10, hB⟩
      · -- no
        refine tw_skip ?_
        refine tw_seq ?_
        refine tw_region ?_
        refine ow_g (g_ldab (cs' := [_, _, _, _, _]) ag26 ty26 rfl hb7 rfl rfl) rfl ?_
        refine ow_d0 (d_sta ty26 rfl rfl rfl (by simp only [List.forall_mem_cons]; refine ⟨rfl, rfl, rfl, rfl, rfl, fun v hv => by cases hv⟩) hb3 rfl) ?_
        rintro _ w52 ⟨hb16, k52, z15⟩
        replace hb1 := hb1.keep k52 (fun hm => absurd (List.mem_singleton.1 hm) ne_b1_b3)
        replace hb2 := hb2.keep k52 (fun hm => absurd (List.mem_singleton.1 hm) ne_b2_b3)
        replace hb5 := hb5.keep k52 (fun hm => absurd (List.mem_singleton.1 hm) (Ne.symm ne_b3_b4))
        replace hb7 := hb7.keep k52 (fun hm => absurd (List.mem_singleton.1 hm) (Ne.symm ne_b3_b5))
        replace o2 := o2.keep k52 (fun x hx hm => sb_b3_o2 x hx (List.mem_singleton.1 hm))
        replace hB := hB.new k52 (fun x hx => .inl ((List.mem_singleton.1 hx) ▸ ge_b3))
        clear z15
        replace hb16 : Bk w52 b3 _ [.int .u64 (hh3 0), .int .u64 (hh3 1), .int .u64 (hh3 2), .int .u64 (hh3 3), .int .u64 (hh3 4)] := hb16
        refine ow_g (g_as rfl) rfl ?_
        refine ow_nil ?_
        refine tw_keep [(4, _), (5, _)] ⟨rfl, rfl, trivial⟩ ?_
        refine tw_retct hfin Try.results71 rfl (run_loadAgg ag26 ty26 (by assumption) rfl) rfl ?_
        exact ⟨hh3, by rw [rootS_T (root1_F hc1) hc4]; rfl, by rw [rootF_even (rootS_T (root1_F hc1) hc4) (root1_F hc1) hc5]; exact E3, hB⟩

set_option maxRecDepth 100000 in
set_option maxHeartbeats 1000000 in
theorem Root_any (u v : Value) (xs ys : List UInt8) (w : World) (hu : RdB w u xs) (hx : xs.length = 32) (hv : RdB w v ys) (hy : ys.length = 32) : Rets Try.prog 38 [u, v] w (fun v w' => ∃ q, v = .tuple #[q, .bool (rootOk (fp (leI xs)) (fp (leI ys))), .int .i64 0] ∧ OwnB w' w.heap.size q (fpB (rootF (fp (leI xs)) (fp (leI ys)))) ∧ Keep [] w w') := by
  have hB : Keep [] w w := Keep.refl _ _
  refine rets_of_tw Try.func38 rfl (by decide) Try.ntmps38 rfl (fun fin _ hfin => ?_)
  refine tw_seq ?_
  refine tw_region ?_
  refine ow_g (g_as rfl) rfl ?_
  refine ow_g (g_as rfl) rfl ?_
  refine ow_g (g_as rfl) rfl ?_
  refine ow_nil ?_
  refine tw_keep [(0, _), (1, _)] ⟨rfl, rfl, trivial⟩ ?_
  refine tw_seq ?_
  refine tw_seq ?_
  refine tw_region ?_
  refine ow_g (g_mv rfl) rfl ?_
  refine ow_g (g_len Try.underlying22 rfl (by first | assumption | exact Own.rd (by assumption) | exact Rd.keep0 (by assumption) hB | exact Own.rd (Own.keep0 (by assumption) hB))) rfl ?_
  refine ow_g (g_ne rfl rfl) rfl ?_
  refine ow_g (g_mv rfl) rfl ?_
  refine ow_grp 11 false rfl (fun c1 hgc1 => ?_)
  refine ow_gg [(1, _)] (grd1 rfl rfl rfl hgc1) ⟨und0 rfl, trivial⟩ (fun hw1 => g_mv rfl) rfl ?_
  refine ow_gg [(12, _)] (grd1 rfl rfl rfl hgc1) ⟨und1 rfl, trivial⟩ (fun hw2 => g_len Try.underlying22 rfl (by first | assumption | exact Own.rd (by assumption) | exact Rd.keep0 (by assumption) hB | exact Own.rd (Own.keep0 (by assumption) hB))) rfl ?_
  refine ow_gg [(13, _)] (grd1 rfl rfl rfl hgc1) ⟨und1 rfl, trivial⟩ (fun hw3 => g_ne rfl rfl) rfl ?_
  refine ow_g (g_por rfl rfl hgc1) rfl ?_
  refine ow_nil ?_
  refine tw_keep [(0, _), (1, _), (15, _)] ⟨rfl, rfl, rfl, trivial⟩ ?_
  refine tw_cond rfl (fun hc1 => ?_) (fun hc1 => ?_)
  · -- yes
    have hd1 := hc1
    try (simp only [Bool.and_eq_true, Bool.or_eq_true, decide_eq_true_eq, Bool.and_eq_false_iff, Bool.or_eq_false_iff, decide_eq_false_iff_not, Bool.not_eq_true', Bool.not_eq_false', Bool.not_eq_true, Bool.not_eq_false, ne_eq, Decidable.not_not, decide_true, decide_false, Bool.true_and, Bool.false_and, Bool.or_false, Bool.false_or, not_true_eq_false, false_or, or_false, true_and, and_true, not_false_eq_true, reduceCtorEq] at hd1)
    refine tw_seq ?_
    refine tw_region ?_
    refine ow_g (g_as rfl) rfl ?_
    refine ow_g (g_as rfl) rfl ?_
    refine ow_g (g_as rfl) rfl ?_
    refine ow_nil ?_
    refine tw_keep [(4, _), (5, _), (6, _)] ⟨rfl, rfl, rfl, trivial⟩ ?_
    refine tw_ret3 hfin Try.results38 rfl rfl rfl ?_
    exfalso; omega
  · -- no
    have hd2 := hc1
    try (simp only [Bool.and_eq_true, Bool.or_eq_true, decide_eq_true_eq, Bool.and_eq_false_iff, Bool.or_eq_false_iff, decide_eq_false_iff_not, Bool.not_eq_true', Bool.not_eq_false', Bool.not_eq_true, Bool.not_eq_false, ne_eq, Decidable.not_not, decide_true, decide_false, Bool.true_and, Bool.false_and, Bool.or_false, Bool.false_or, not_true_eq_false, false_or, or_false, true_and, and_true, not_false_eq_true, reduceCtorEq] at hd2)
    refine tw_skip ?_
    refine tw_seq ?_
    refine tw_region ?_
    refine ow_g (g_mv rfl) rfl ?_
    refine ow_d (d_call (vs := [_]) rfl (get_any _ xs _ (by first | assumption | exact Own.rd (by assumption) | exact Rd.keep0 (by assumption) hB | exact Own.rd (Own.keep0 (by assumption) hB)) hx)) rfl ?_
    rintro _ w1 ⟨hh1, rfl, E1, k1⟩
    replace hB := hB.trans k1
    refine ow_g (g_mv rfl) rfl ?_
    refine ow_d (d_call (vs := [_]) rfl (get_any _ ys _ (by first | assumption | exact Own.rd (by assumption) | exact Rd.keep0 (by assumption) hB | exact Own.rd (Own.keep0 (by assumption) hB)) hy)) rfl ?_
    rintro _ w2 ⟨hh2, rfl, E2, k2⟩
    replace hB := hB.trans k2
    refine ow_d (d_call (vs := [_, _]) rfl (root_any _ _ _ _ E1 E2 _)) rfl ?_
    rintro _ w3 ⟨hh3, rfl, E3, k3⟩
    replace hB := hB.trans k3
    refine ow_g (g_mv rfl) rfl ?_
    refine ow_g (g_ext (vs := [_, _]) rfl rfl) rfl ?_
    refine ow_g (g_ext (vs := [_, _]) rfl rfl) rfl ?_
    refine ow_d (d_alloc ty26) rfl ?_
    rintro _ w4 ⟨b1, rfl, eb1, hb1, k4, z1⟩
    have ge_b1 : w.heap.size ≤ b1 := by have := hB.size; omega
    replace hB := hB.trans k4
    clear eb1 z1
    refine ow_d0 (d_sta ty26 rfl rfl rfl ivF_one hb1 rfl) ?_
    rintro _ w5 ⟨hb2, k5, z2⟩
    replace hB := hB.new k5 (fun x hx => .inl ((List.mem_singleton.1 hx) ▸ ge_b1))
    clear z2
    replace hb2 : Bk w5 b1 _ [.int .u64 (hh3 0), .int .u64 (hh3 1), .int .u64 (hh3 2), .int .u64 (hh3 3), .int .u64 (hh3 4)] := hb2
    refine ow_g (g_as rfl) rfl ?_
    refine ow_nil ?_
    refine tw_keep [(7, _), (5, _)] ⟨rfl, rfl, trivial⟩ ?_
    refine tw_seq ?_
    refine tw_region ?_
    refine ow_g (g_ldab (cs' := [_, _, _, _, _]) ag26 ty26 rfl hb2 rfl rfl) rfl ?_
    refine ow_d (d_call (vs := [_]) rfl (put_any _ _ E3 _)) rfl ?_
    rintro v1 w6 ⟨o1, k6⟩
    have gl_o1 := hB.size
    have sb_b1_o1 := fun x hx => (show x ≠ b1 from by have h1 := (o1.blk x hx).1; have h2 := hb2.lt; omega)
    replace hb2 := hb2.keep0 k6
    replace hB := hB.trans k6
    have u_o1 := o1.blk
    refine ow_g (g_mv rfl) rfl ?_
    refine ow_g (g_as rfl) rfl ?_
    refine ow_g (g_as rfl) rfl ?_
    refine ow_g (g_as rfl) rfl ?_
    refine ow_nil ?_
    refine tw_keep [(5, _), (4, _), (6, _)] ⟨rfl, rfl, rfl, trivial⟩ ?_
    refine tw_ret3 hfin Try.results38 rfl rfl rfl ?_
    exact ⟨_, rfl, o1.lo gl_o1, hB⟩

end Go.Proofs.Ytkngeapegpehpaa.W
