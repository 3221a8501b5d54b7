import Derived.Test.YtkngeapegpehpaaLwa
namespace Go.Proofs.Ytkngeapegpehpaa.W
open Go Go.Eng Go.Byt
set_option linter.unusedVariables false
set_option linter.unusedSimpArgs false
open Go.Fld Go.Ed
attribute [local irreducible] encB
theorem tmod12 (n : Int) : In (n.tmod 12) (-11) 11 := by
  unfold In
  have h1 := Int.tmod_lt_of_pos n (show (0 : Int) < 12 by decide)
  have h2 := Int.lt_tmod_of_pos n (show (0 : Int) < 12 by decide)
  omega
def dblB (m : Int) : List UInt8 := (List.replicate 32 0).set (m / 8).toNat (UInt8.ofNat (2 ^ (m % 8).toNat))
theorem dblB_len (m : Int) : (dblB m).length = 32 := by unfold dblB; rw [List.length_set, List.length_replicate]
theorem in12 {m : Int} (h : In m 0 11) : m = 0 ∨ m = 1 ∨ m = 2 ∨ m = 3 ∨ m = 4 ∨ m = 5 ∨ m = 6 ∨ m = 7 ∨ m = 8 ∨ m = 9 ∨ m = 10 ∨ m = 11 := by unfold In at h; omega
theorem dbl_set {m a b c e : Int} (h : In m 0 11) (ha : Eqn a (m / 8)) (hb : Eqn b (m % 8)) (hc : Eqn c b) (he : Eqn e (IntKind.u8.wrap (1 * 2 ^ c.toNat))) : (List.replicate 32 (Value.int .u8 0)).set (a.toNat * 1) (.int .u8 e) = bv (dblB m) := by
  unfold Eqn at *
  subst he hc hb ha
  rcases in12 h with rfl | rfl | rfl | rfl | rfl | rfl | rfl | rfl | rfl | rfl | rfl | rfl <;> rfl
theorem dbl_val {m : Int} (h : In m 0 11) : (leI (dblB m)).toNat = 2 ^ m.toNat := by
  rcases in12 h with rfl | rfl | rfl | rfl | rfl | rfl | rfl | rfl | rfl | rfl | rfl | rfl <;> decide
theorem dbl_step {o : Nat → Int} {N : Nat} {i : Int} (h0 : 0 ≤ i) (h : PtR o (padd (pmul (N * 2 ^ i.toNat) basePt) (pmul (N * 2 ^ i.toNat) basePt))) : PtR o (pmul (N * 2 ^ (i + 1).toNat) basePt) := by
  rw [show (i + 1).toNat = i.toNat + 1 by omega, Nat.pow_succ, ← Nat.mul_assoc, ← pmul_two base_on]; exact h
theorem dbl_eq {N : Nat} {i m : Int} (h : In m 0 11) (h1 : i ≤ m) (h2 : ¬ i < m) : pmul (N * 2 ^ i.toNat) basePt = pmul (leI (dblB m)).toNat (pmul N basePt) := by
  rw [dbl_val h, show i = m by omega, pmul_mul base_on]
set_option maxRecDepth 100000 in
set_option maxHeartbeats 1000000 in
theorem doubles_any (v : Value) (xs : List UInt8) (n : Int) (w : World) (hv : RdB w v xs) : Rets Try.prog 5 [v, .int .i64 n] w (fun r w' => r = .bool true ∧ Keep [] w w') := by
  have hB : Keep [] w w := Keep.refl _ _
  refine rets_of_tw Try.func5 rfl (by decide) Try.ntmps5 rfl (fun fin _ hfin => ?_)
  refine tw_seq ?_
  refine tw_region ?_
  refine ow_g (g_as rfl) rfl ?_
  refine ow_nil ?_
  refine tw_keep [(0, _), (1, _)] ⟨rfl, rfl, trivial⟩ ?_
  refine tw_seq ?_
  refine tw_region ?_
  refine ow_g (g_mv rfl) rfl ?_
  refine ow_d (d_call (vs := [_]) rfl (some_any _ xs _ (by first | assumption | exact Own.rd (by assumption) | exact Rd.keep0 (by assumption) hB | exact Own.rd (Own.keep0 (by assumption) hB)))) rfl ?_
  rintro _ w1 ⟨hh1, rfl, E1, k1⟩
  replace hB := hB.trans k1
  refine ow_d (d_alloc ty30) rfl ?_
  rintro _ w2 ⟨b1, rfl, eb1, hb1, k2, z1⟩
  have ge_b1 : w.heap.size ≤ b1 := by have := hB.size; omega
  replace hB := hB.trans k2
  clear eb1 z1
  refine ow_d0 (d_sta ty30 rfl rfl rfl ivF_one hb1 rfl) ?_
  rintro _ w3 ⟨hb2, k3, z2⟩
  replace hB := hB.new k3 (fun x hx => .inl ((List.mem_singleton.1 hx) ▸ ge_b1))
  clear z2
  replace hb2 : Bk w3 b1 _ [.int .u64 (hh1 0), .int .u64 (hh1 1), .int .u64 (hh1 2), .int .u64 (hh1 3), .int .u64 (hh1 4), .int .u64 (hh1 5), .int .u64 (hh1 6), .int .u64 (hh1 7), .int .u64 (hh1 8), .int .u64 (hh1 9), .int .u64 (hh1 10), .int .u64 (hh1 11), .int .u64 (hh1 12), .int .u64 (hh1 13), .int .u64 (hh1 14), .int .u64 (hh1 15), .int .u64 (hh1 16), .int .u64 (hh1 17), .int .u64 (hh1 18), .int .u64 (hh1 19)] := hb2
  refine ow_nil ?_
  refine tw_keep [(1, _), (5, _)] ⟨rfl, rfl, trivial⟩ ?_
  refine tw_seq ?_
  refine tw_region ?_
  refine ow_g (g_mv rfl) rfl ?_
  refine ow_gx (e' := n.tmod 12) (lo := (-11)) (hi := 11) (g_remt rfl rfl (by decide)) (rfl) (tmod12 n) rfl (fun z3 h1 r1 => ?_)
  refine ow_gx (e' := z3 + 12) (lo := 1) (hi := 23) (g_addw rfl rfl) (wrap_fit (in_add r1 (in_c 12)) rfl) (In.wk (in_add r1 (in_c 12)) rfl) rfl (fun z4 h2 r2 => ?_)
  refine ow_gx (e' := z4 % 12) (lo := 0) (hi := 11) (g_rem rfl rfl ⟨Int.le_trans (by decide) (r2).1, by decide⟩) (rfl) (In.wk (in_mod _ (by decide)) rfl) rfl (fun z5 h3 r3 => ?_)
  refine ow_g (g_as rfl) rfl ?_
  refine ow_nil ?_
  refine tw_keep [(1, _), (5, _)] ⟨rfl, rfl, trivial⟩ ?_
  refine tw_seq ?_
  refine tw_region ?_
  refine ow_g (g_ldab (cs' := [_, _, _, _, _, _, _, _, _, _, _, _, _, _, _, _, _, _, _, _]) ag30 ty30 rfl hb2 rfl rfl) rfl ?_
  refine ow_d (d_alloc ty30) rfl ?_
  rintro _ w4 ⟨b2, rfl, eb2, hb3, k4, z6⟩
  have ge_b2 : w.heap.size ≤ b2 := by have := hB.size; omega
  have ne_b1_b2 : b1 ≠ b2 := by have := hb2.lt; omega
  replace hb2 := hb2.keep0 k4
  replace hB := hB.trans k4
  clear eb2 z6
  refine ow_d0 (d_sta ty30 rfl rfl rfl (by simp only [List.forall_mem_cons]; refine ⟨rfl, rfl, rfl, rfl, rfl, rfl, rfl, rfl, rfl, rfl, rfl, rfl, rfl, rfl, rfl, rfl, rfl, rfl, rfl, rfl, fun v hv => by cases hv⟩) hb3 rfl) ?_
  rintro _ w5 ⟨hb4, k5, z7⟩
  replace hb2 := hb2.keep k5 (fun hm => absurd (List.mem_singleton.1 hm) ne_b1_b2)
  replace hB := hB.new k5 (fun x hx => .inl ((List.mem_singleton.1 hx) ▸ ge_b2))
  clear z7
  replace hb4 : Bk w5 b2 _ [.int .u64 (hh1 0), .int .u64 (hh1 1), .int .u64 (hh1 2), .int .u64 (hh1 3), .int .u64 (hh1 4), .int .u64 (hh1 5), .int .u64 (hh1 6), .int .u64 (hh1 7), .int .u64 (hh1 8), .int .u64 (hh1 9), .int .u64 (hh1 10), .int .u64 (hh1 11), .int .u64 (hh1 12), .int .u64 (hh1 13), .int .u64 (hh1 14), .int .u64 (hh1 15), .int .u64 (hh1 16), .int .u64 (hh1 17), .int .u64 (hh1 18), .int .u64 (hh1 19)] := hb4
  refine ow_nil ?_
  refine tw_keep [(1, _), (5, _), (6, _)] ⟨rfl, rfl, rfl, trivial⟩ ?_
  refine tw_seq ?_
  refine tw_seq ?_
  refine tw_region ?_
  refine ow_g (g_as rfl) rfl ?_
  refine ow_nil ?_
  refine tw_keep [(1, _), (5, _), (6, _), (7, _)] ⟨rfl, rfl, rfl, rfl, trivial⟩ ?_
  refine tw_block ?_
  refine tw_loop (Γ := Int × (Nat → Int)) (fun ⟨i, o⟩ => [(1, .int .i64 z5), (5, .pointer (some ⟨b1, 0, none⟩)), (6, .pointer (some ⟨b2, 0, none⟩)), (7, .int .i64 i)]) (fun ⟨i, o⟩ W => 0 ≤ i ∧ i ≤ z5 ∧ PtR o (pmul ((leI (fit xs)).toNat * 2 ^ i.toNat) basePt) ∧ Bk W b1 30 [.int .u64 (hh1 0), .int .u64 (hh1 1), .int .u64 (hh1 2), .int .u64 (hh1 3), .int .u64 (hh1 4), .int .u64 (hh1 5), .int .u64 (hh1 6), .int .u64 (hh1 7), .int .u64 (hh1 8), .int .u64 (hh1 9), .int .u64 (hh1 10), .int .u64 (hh1 11), .int .u64 (hh1 12), .int .u64 (hh1 13), .int .u64 (hh1 14), .int .u64 (hh1 15), .int .u64 (hh1 16), .int .u64 (hh1 17), .int .u64 (hh1 18), .int .u64 (hh1 19)] ∧ Bk W b2 30 [.int .u64 (o 0), .int .u64 (o 1), .int .u64 (o 2), .int .u64 (o 3), .int .u64 (o 4), .int .u64 (o 5), .int .u64 (o 6), .int .u64 (o 7), .int .u64 (o 8), .int .u64 (o 9), .int .u64 (o 10), .int .u64 (o 11), .int .u64 (o 12), .int .u64 (o 13), .int .u64 (o 14), .int .u64 (o 15), .int .u64 (o 16), .int .u64 (o 17), .int .u64 (o 18), .int .u64 (o 19)] ∧ Keep [] w W) (fun ⟨i, o⟩ => (z5 - i).toNat) ⟨0, hh1⟩ ⟨rfl, rfl, rfl, rfl, trivial⟩ (⟨by decide, r3.1, (by show PtR _ (pmul ((leI (fit xs)).toNat * 1) basePt); rw [Nat.mul_one]; exact E1), hb2, hb4, hB⟩) ?_
  rintro ⟨i, o⟩ w6 ⟨hi0, hi1, hO, hbx5, hbx6, hB⟩
  refine tw_keep [(1, .int .i64 z5), (5, .pointer (some ⟨b1, 0, none⟩)), (6, .pointer (some ⟨b2, 0, none⟩)), (7, .int .i64 i)] ⟨rfl, rfl, rfl, rfl, trivial⟩ ?_
  have hm11 : z5 ≤ 11 := r3.2
  refine tw_seq ?_
  refine tw_seq ?_
  refine tw_region ?_
  refine ow_g (g_mv rfl) rfl ?_
  refine ow_g (g_mv rfl) rfl ?_
  refine ow_g (g_lt rfl rfl) rfl ?_
  refine ow_nil ?_
  refine tw_keep [(1, _), (5, _), (6, _), (7, _), (20, _)] ⟨rfl, rfl, rfl, rfl, rfl, trivial⟩ ?_
  refine tw_if rfl (fun hc1 => ?_) (fun hc1 => ?_)
  · -- yes
    refine tw_skip ?_
    refine tw_seq ?_
    refine tw_block ?_
    refine tw_region ?_
    refine ow_g (g_ldab (cs' := [_, _, _, _, _, _, _, _, _, _, _, _, _, _, _, _, _, _, _, _]) ag30 ty30 rfl hbx6 rfl rfl) rfl ?_
    refine ow_g (g_ldab (cs' := [_, _, _, _, _, _, _, _, _, _, _, _, _, _, _, _, _, _, _, _]) ag30 ty30 rfl hbx6 rfl rfl) rfl ?_
    refine ow_d (d_call (vs := [_, _]) rfl (PplusR hO hO (on_mul base_on _) (on_mul base_on _) _)) rfl ?_
    rintro _ w7 ⟨hh2, rfl, E2, k6⟩
    replace hbx5 := hbx5.keep0 k6
    replace hbx6 := hbx6.keep0 k6
    replace hB := hB.trans k6
    refine ow_d0 (d_sta ty30 rfl rfl rfl ivF_one hbx6 rfl) ?_
    rintro _ w8 ⟨hb5, k7, z8⟩
    replace hbx5 := hbx5.keep k7 (fun hm => absurd (List.mem_singleton.1 hm) ne_b1_b2)
    replace hB := hB.new k7 (fun x hx => .inl ((List.mem_singleton.1 hx) ▸ ge_b2))
    clear z8
    replace hb5 : Bk w8 b2 _ [.int .u64 (hh2 0), .int .u64 (hh2 1), .int .u64 (hh2 2), .int .u64 (hh2 3), .int .u64 (hh2 4), .int .u64 (hh2 5), .int .u64 (hh2 6), .int .u64 (hh2 7), .int .u64 (hh2 8), .int .u64 (hh2 9), .int .u64 (hh2 10), .int .u64 (hh2 11), .int .u64 (hh2 12), .int .u64 (hh2 13), .int .u64 (hh2 14), .int .u64 (hh2 15), .int .u64 (hh2 16), .int .u64 (hh2 17), .int .u64 (hh2 18), .int .u64 (hh2 19)] := hb5
    refine ow_nil ?_
    refine tw_keep [(1, _), (5, _), (6, _), (7, _)] ⟨rfl, rfl, rfl, rfl, trivial⟩ ?_
    refine tw_b ?_
    refine tw_region ?_
    refine ow_g (g_mv rfl) rfl ?_
    refine ow_g (g_add rfl rfl (by omega)) rfl ?_
    refine ow_g (g_as rfl) rfl ?_
    refine ow_nil ?_
    refine tw_keep [(1, _), (5, _), (6, _), (7, _)] ⟨rfl, rfl, rfl, rfl, trivial⟩ ?_
    refine tw_inv (Γ := Int × (Nat → Int)) ⟨i + 1, hh2⟩ ⟨rfl, rfl, rfl, rfl, trivial⟩ (by (try dsimp only); omega) (⟨by omega, by omega, dbl_step hi0 E2, hbx5, hb5, hB⟩)
  · -- no
    refine tw_exit rfl ?_
    refine tw_seq ?_
    refine tw_region ?_
    refine ow_d (d_mk Try.underlying22 ty5 rfl rfl (by omega) (by constructor <;> omega)) rfl ?_
    rintro v1 w9 ⟨o1, nn1, lb1, k8, z9⟩
    have gl_o1 := hB.size
    have sb_b1_o1 := fun x hx => (show x ≠ b1 from by have h1 := (o1.blk x hx).1; have h2 := hbx5.lt; omega)
    have sb_b2_o1 := fun x hx => (show x ≠ b2 from by have h1 := (o1.blk x hx).1; have h2 := hbx6.lt; omega)
    replace hbx5 := hbx5.keep0 k8
    replace hbx6 := hbx6.keep0 k8
    replace hB := hB.trans k8
    have u_o1 := o1.blk
    replace o1 : Own w9 w.heap.size 5 1 v1 32 (List.replicate 32 (.int .u8 0)) := o1.lo gl_o1
    refine ow_g (g_as rfl) rfl ?_
    refine ow_nil ?_
    refine tw_keep [(1, _), (5, _), (6, _), (8, _)] ⟨rfl, rfl, rfl, rfl, trivial⟩ ?_
    refine tw_seq ?_
    refine tw_region ?_
    refine ow_g (g_mv rfl) rfl ?_
    refine ow_g (g_mv rfl) rfl ?_
    refine ow_gx (e' := z5 / 8) (lo := 0) (hi := 1) (g_quo rfl rfl ⟨Int.le_trans (by decide) (r3).1, Int.le_trans (r3).2 (by decide), by decide⟩) (rfl) (In.wk (in_div r3 (by decide)) rfl) rfl (fun z10 h4 r4 => ?_)
    refine ow_g (g_mv rfl) rfl ?_
    refine ow_gx (e' := z5 % 8) (lo := 0) (hi := 7) (g_rem rfl rfl ⟨Int.le_trans (by decide) (r3).1, by decide⟩) (rfl) (In.wk (in_mod _ (by decide)) rfl) rfl (fun z11 h5 r5 => ?_)
    refine ow_gx (e' := z11) (lo := 0) (hi := 7) (g_cv (by rw [Try.underlying3]; rfl) Try.underlying53 rfl) (wrap_fit r5 rfl) (r5) rfl (fun z12 h6 r6 => ?_)
    refine ow_gz (e' := IntKind.u8.wrap (1 * 2 ^ (z12 : Int).toNat)) (g_shl rfl rfl (by have := r6; unfold In at this; constructor <;> (try simp only [IntKind.bits]) <;> omega)) (rfl) rfl (fun z13 h7 => ?_)
    refine ow_g (g_ix Try.underlying22 ty5 rfl (by first | assumption | exact Own.rd (by assumption) | exact Rd.keep0 (by assumption) hB | exact Own.rd (Own.keep0 (by assumption) hB)) rfl (by have := r4; unfold In at this; omega)) rfl ?_
    refine ow_d0 (d_sto (u := .int .u8 z13) ty5 rfl rfl rfl o1 (by have := r4; unfold In at this; rw [List.length_replicate]; omega)) ?_
    rintro _ w99 ⟨ow2, k99, z99⟩
    replace hB := hB.new k99 (fun x hx => .inl (o1.blk x hx).1)
    rw [dbl_set r3 h4 h5 h6 h7] at ow2
    replace hbx5 := hbx5.keep k99 (fun hm => sb_b1_o1 _ hm rfl)
    replace hbx6 := hbx6.keep k99 (fun hm => sb_b2_o1 _ hm rfl)
    refine ow_nil ?_
    refine tw_keep [(5, _), (6, _), (8, _)] ⟨rfl, rfl, rfl, trivial⟩ ?_
    refine tw_seq ?_
    refine tw_region ?_
    refine ow_g (g_ldab (cs' := [_, _, _, _, _, _, _, _, _, _, _, _, _, _, _, _, _, _, _, _]) ag30 ty30 rfl hbx5 rfl rfl) rfl ?_
    refine ow_g (g_mv rfl) rfl ?_
    refine ow_d (d_call (vs := [_, _]) rfl (Ptimes_32 _ _ _ _ E1 (on_mul base_on _) _ (by show Rd _ 1 _ _ _; rw [dblB_len]; exact ow2.rd) (dblB_len _))) rfl ?_
    rintro _ w10 ⟨hh3, rfl, E3, k9⟩
    replace hbx5 := hbx5.keep0 k9
    replace hbx6 := hbx6.keep0 k9
    replace ow2 := ow2.keep0 k9
    replace hB := hB.trans k9
    refine ow_g (g_mv rfl) rfl ?_
    refine ow_g (g_ext (vs := [_, _]) rfl rfl) rfl ?_
    refine ow_g (g_ext (vs := [_, _]) rfl rfl) rfl ?_
    refine ow_d (d_alloc ty30) rfl ?_
    rintro _ w11 ⟨b3, rfl, eb3, hb6, k10, z14⟩
    have ge_b3 : w.heap.size ≤ b3 := by have := hB.size; omega
    have ne_b1_b3 : b1 ≠ b3 := by have := hbx5.lt; omega
    have ne_b2_b3 : b2 ≠ b3 := by have := hbx6.lt; omega
    have sb_b3_ow2 := fun x hx => (show x ≠ b3 from by have := (ow2.blk x hx).2; omega)
    replace hbx5 := hbx5.keep0 k10
    replace hbx6 := hbx6.keep0 k10
    replace ow2 := ow2.keep0 k10
    replace hB := hB.trans k10
    clear eb3 z14
    refine ow_d0 (d_sta ty30 rfl rfl rfl ivF_one hb6 rfl) ?_
    rintro _ w12 ⟨hb7, k11, z15⟩
    replace hbx5 := hbx5.keep k11 (fun hm => absurd (List.mem_singleton.1 hm) ne_b1_b3)
    replace hbx6 := hbx6.keep k11 (fun hm => absurd (List.mem_singleton.1 hm) ne_b2_b3)
    replace ow2 := ow2.keep k11 (fun x hx hm => sb_b3_ow2 x hx (List.mem_singleton.1 hm))
    replace hB := hB.new k11 (fun x hx => .inl ((List.mem_singleton.1 hx) ▸ ge_b3))
    clear z15
    replace hb7 : Bk w12 b3 _ [.int .u64 (hh3 0), .int .u64 (hh3 1), .int .u64 (hh3 2), .int .u64 (hh3 3), .int .u64 (hh3 4), .int .u64 (hh3 5), .int .u64 (hh3 6), .int .u64 (hh3 7), .int .u64 (hh3 8), .int .u64 (hh3 9), .int .u64 (hh3 10), .int .u64 (hh3 11), .int .u64 (hh3 12), .int .u64 (hh3 13), .int .u64 (hh3 14), .int .u64 (hh3 15), .int .u64 (hh3 16), .int .u64 (hh3 17), .int .u64 (hh3 18), .int .u64 (hh3 19)] := hb7
    refine ow_g (g_as rfl) rfl ?_
    refine ow_nil ?_
    refine tw_keep [(6, _), (9, _), (10, _)] ⟨rfl, rfl, rfl, trivial⟩ ?_
    refine tw_seq ?_
    refine tw_region ?_
    refine ow_g (g_mv rfl) rfl ?_
    refine ow_d (d_call (vs := [_]) rfl (num_any _ _)) rfl ?_
    rintro _ _ ⟨rfl, rfl⟩
    refine ow_g (g_eq rfl rfl) rfl ?_
    refine ow_g (g_mv rfl) rfl ?_
    refine ow_grp 44 true rfl (fun c1 hgc1 => ?_)
    refine ow_gg [(6, _)] (grd1 rfl rfl rfl hgc1) ⟨und0 rfl, trivial⟩ (fun hw1 => g_ldab (cs' := [_, _, _, _, _, _, _, _, _, _, _, _, _, _, _, _, _, _, _, _]) ag30 ty30 rfl hbx6 rfl rfl) rfl ?_
    refine ow_gg [(9, _)] (grd1 rfl rfl rfl hgc1) ⟨und0 rfl, trivial⟩ (fun hw2 => g_ldab (cs' := [_, _, _, _, _, _, _, _, _, _, _, _, _, _, _, _, _, _, _, _]) ag30 ty30 rfl hb7 rfl rfl) rfl ?_
    refine ow_gdk [(45, _), (46, _)] (grd1 rfl rfl rfl hgc1) ⟨und1 rfl, und1 rfl, trivial⟩ (fun hw3 => d_call (vs := [_, _]) rfl (PsameR hO E3 _)) rfl ?_
    rintro w14 k13
    replace hbx5 := hbx5.keep0 k13
    replace hbx6 := hbx6.keep0 k13
    replace ow2 := ow2.keep0 k13
    replace hb7 := hb7.keep0 k13
    replace hB := hB.trans k13
    refine ow_g (g_pand rfl rfl hgc1) rfl ?_
    refine ow_g (g_mv rfl) rfl ?_
    refine ow_grp 49 true rfl (fun c2 hgc2 => ?_)
    refine ow_gdk [] (grd1 rfl rfl rfl hgc2) trivial (fun hw4 => d_call (vs := []) rfl (knows_any _)) rfl ?_
    rintro w16 k15
    replace hbx5 := hbx5.keep0 k15
    replace hbx6 := hbx6.keep0 k15
    replace ow2 := ow2.keep0 k15
    replace hb7 := hb7.keep0 k15
    replace hB := hB.trans k15
    refine ow_g (g_pand rfl rfl hgc2) rfl ?_
    refine ow_g (g_as rfl) rfl ?_
    refine ow_nil ?_
    refine tw_keep [(4, _)] ⟨rfl, trivial⟩ ?_
    refine tw_ret1 hfin Try.results5 rfl ?_
    exact ⟨by rw [dbl_eq r3 hi1 (by assumption)]; simp, hB⟩

end Go.Proofs.Ytkngeapegpehpaa.W
