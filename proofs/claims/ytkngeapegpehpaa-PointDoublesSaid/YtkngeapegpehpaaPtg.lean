import Derived.Test.YtkngeapegpehpaaPtf
import Derived.Test.YtkngeapegpehpaaSlb
import Derived.Test.YtkngeapegpehpaaPtL
namespace Go.Proofs.Ytkngeapegpehpaa.W
open Go Go.Eng Go.Byt
set_option linter.unusedVariables false
set_option linter.unusedSimpArgs false
open Go.Fld Go.Ed
attribute [local irreducible] encB
def decLow (xs : List UInt8) : List UInt8 := xs.set 31 (UInt8.ofNat (bits .andNot .u8 (gb xs 31) 128).toNat)
def decY (xs : List UInt8) : Fp := fp (leI (decLow xs))
def decOdd (xs : List UInt8) : Bool := decide (gb xs 31 / 128 = 1)
def decU (y : Fp) : Fp := y * y - fp 1
def decV (y : Fp) : Fp := d * (y * y) + fp 1
def decE (xs : List UInt8) : Int := if xs.length ≠ 32 then 1 else if fpB (decY xs) ≠ decLow xs then 30 else if (!rootOk (decU (decY xs)) (decV (decY xs)) || (decOdd xs && decide (rootF (decU (decY xs)) (decV (decY xs)) = 0))) = true then 30 else 0
def decX (xs : List UInt8) : Fp := if decOdd xs = true then 0 - rootF (decU (decY xs)) (decV (decY xs)) else rootF (decU (decY xs)) (decV (decY xs))
theorem decLow_len (xs : List UInt8) (hx : xs.length = 32) : (decLow xs).length = 32 := by unfold decLow; rw [List.length_set, hx]
theorem fp_fpB (a : Fp) : fp (leI (fpB a)) = a := by
  have h := a.isLt
  have hp : (P : Int) < 256 ^ 32 := by decide +kernel
  unfold fpB
  rw [leI_leB 32 (a.val : Int) (by omega) (by omega), fp_self]
theorem gb_fpB_zero (a : Fp) : (∀ j : Nat, j ≤ 31 → gb (fpB a) j = 0) ↔ a = 0 := by
  constructor
  · intro h
    refine fpB_inj (List.ext_getElem (by rw [fpB_length, fpB_length]) (fun j h1 h2 => ?_))
    have g := h j (by rw [fpB_length] at h1; omega)
    have g0 : gb (fpB (0 : Fp)) j = 0 := by
      have hj : j < 32 := by rwa [fpB_length] at h1
      have : ∀ j : Nat, j < 32 → gb (fpB (0 : Fp)) (j : Int) = 0 := by decide +kernel
      exact this j hj
    unfold gb at g g0
    rw [Int.toNat_natCast, List.getD_eq_getElem?_getD, List.getElem?_eq_getElem h1] at g
    rw [Int.toNat_natCast, List.getD_eq_getElem?_getD, List.getElem?_eq_getElem h2] at g0
    simp only [Option.getD_some] at g g0
    exact UInt8.toNat_inj.1 (by omega)
  · rintro rfl
    have : ∀ j : Nat, j < 32 → gb (fpB (0 : Fp)) (j : Int) = 0 := by decide +kernel
    intro j hj; exact this j (by omega)
theorem mx_fpB (a : Fp) : decide (mxB (fpB a) (((fpB a).length : Int) - 1).toNat = 0) = decide (a = 0) := by
  rw [fpB_length]
  exact decide_eq_decide.2 ((mxB_zero _ _).trans (gb_fpB_zero a))
theorem dec_e1 {xs : List UInt8} (hx : xs.length = 32) (h : ¬ fpB (fp (leI (decLow xs))) = decLow xs) : decE xs = 30 := by
  unfold decE decY; rw [if_neg (by omega), if_pos h]
theorem dec_b {xs : List UInt8} {z : Int} {c : Bool} {U V : Fp} (hz : Eqn z (gb xs 31 / 128)) (hU : U = decU (decY xs)) (hV : V = decV (decY xs))
    (h : (!rootOk (fp (leI (fpB U))) (fp (leI (fpB V))) || decide (z = 1) && decide (mxB (fpB (rootF (fp (leI (fpB U))) (fp (leI (fpB V))))) (((fpB (rootF (fp (leI (fpB U))) (fp (leI (fpB V))))).length : Int) - 1).toNat = 0)) = c) :
    (!rootOk (decU (decY xs)) (decV (decY xs)) || (decOdd xs && decide (rootF (decU (decY xs)) (decV (decY xs)) = 0))) = c := by
  unfold Eqn at hz
  subst hz hU hV
  rw [mx_fpB, fp_fpB, fp_fpB] at h
  exact h
theorem dec_e2 {xs : List UInt8} {z : Int} (hx : xs.length = 32) (h1 : ¬¬ fpB (fp (leI (decLow xs))) = decLow xs) (h : (!rootOk (decU (decY xs)) (decV (decY xs)) || (decOdd xs && decide (rootF (decU (decY xs)) (decV (decY xs)) = 0))) = true) : decE xs = 30 := by
  have h1 : ¬ fpB (decY xs) ≠ decLow xs := h1
  unfold decE; rw [if_neg (by omega), if_neg h1, if_pos h]
theorem dec_e0 {xs : List UInt8} {z : Int} (hx : xs.length = 32) (h1 : ¬¬ fpB (fp (leI (decLow xs))) = decLow xs) (h : (!rootOk (decU (decY xs)) (decV (decY xs)) || (decOdd xs && decide (rootF (decU (decY xs)) (decV (decY xs)) = 0))) = false) : decE xs = 0 := by
  have h1 : ¬ fpB (decY xs) ≠ decLow xs := h1
  unfold decE; rw [if_neg (by omega), if_neg h1, if_neg (by rw [h]; decide)]
theorem dec_xT {xs : List UInt8} {z : Int} {U V : Fp} (hz : Eqn z (gb xs 31 / 128)) (hU : U = decU (decY xs)) (hV : V = decV (decY xs)) (h : z = 1) : decX xs = 0 - fp (leI (fpB (rootF (fp (leI (fpB U))) (fp (leI (fpB V)))))) := by
  unfold Eqn at hz
  subst hU hV
  rw [fp_fpB, fp_fpB, fp_fpB]
  unfold decX
  rw [if_pos (by unfold decOdd; rw [← hz]; exact decide_eq_true h)]
theorem dec_xF {xs : List UInt8} {z : Int} {U V : Fp} (hz : Eqn z (gb xs 31 / 128)) (hU : U = decU (decY xs)) (hV : V = decV (decY xs)) (h : ¬ z = 1) : decX xs = fp (leI (fpB (rootF (fp (leI (fpB U))) (fp (leI (fpB V)))))) := by
  unfold Eqn at hz
  subst hU hV
  rw [fp_fpB, fp_fpB, fp_fpB]
  unfold decX
  rw [if_neg (by unfold decOdd; rw [← hz, decide_eq_false h]; decide)]
set_option maxRecDepth 100000 in
set_option maxHeartbeats 1000000 in
theorem Pdecode_32 (v : Value) (xs : List UInt8) (w : World) (hv : RdB w v xs) (hx : xs.length = 32) : Rets Try.prog 9 [v] w (fun v w' => ∃ p, v = .tuple #[.agg (iv .u64 20 p).toArray, .int .i64 (decE xs)] ∧ (decE xs = 0 → PtEl p (decX xs) (decY xs) (fp 1) (decX xs * decY xs)) ∧ (decE xs ≠ 0 → p = fun _ => 0) ∧ Keep [] w w') := by
  have hB : Keep [] w w := Keep.refl _ _
  refine rets_of_tw Try.func9 rfl (by decide) Try.ntmps9 rfl (fun fin _ hfin => ?_)
  refine tw_seq ?_
  refine tw_region ?_
  refine ow_d (d_alloc ty30) rfl ?_
  rintro _ w1 ⟨b1, rfl, eb1, hb1, k1, z1⟩
  have ge_b1 : w.heap.size ≤ b1 := by have := hB.size; omega
  replace hB := hB.trans k1
  clear eb1 z1
  refine ow_g (g_as rfl) rfl ?_
  refine ow_nil ?_
  refine tw_keep [(0, _), (2, _)] ⟨rfl, rfl, trivial⟩ ?_
  refine tw_seq ?_
  refine tw_seq ?_
  refine tw_region ?_
  refine ow_g (g_mv rfl) rfl ?_
  refine ow_g (g_len Try.underlying22 rfl (by first | assumption | exact Own.rd (by assumption) | exact Rd.keep0 (by assumption) hB | exact Own.rd (Own.keep0 (by assumption) hB))) rfl ?_
  refine ow_g (g_ne rfl rfl) rfl ?_
  refine ow_nil ?_
  refine tw_keep [(0, _), (2, _), (16, _)] ⟨rfl, rfl, rfl, trivial⟩ ?_
  refine tw_ifF rfl (by omega) ?_
  refine tw_skip ?_
  refine tw_seq ?_
  refine tw_region ?_
  refine ow_g (g_mv rfl) rfl ?_
  refine ow_g (g_ix Try.underlying22 ty5 rfl (by first | assumption | exact Own.rd (by assumption) | exact Rd.keep0 (by assumption) hB | exact Own.rd (Own.keep0 (by assumption) hB)) rfl (by omega)) rfl ?_
  refine ow_g (g_ldB sc5 rfl (by first | assumption | exact Own.rd (by assumption) | exact Rd.keep0 (by assumption) hB | exact Own.rd (Own.keep0 (by assumption) hB)) (by omega)) rfl ?_
  refine ow_gx (e' := (gb xs (31)) / 128) (lo := 0) (hi := 1) (g_shrp (m := 128) rfl rfl (by decide) rfl) (rfl) (In.wk (in_div (gb_range xs (31)) (by decide)) rfl) rfl (fun z2 h1 r1 => ?_)
  refine ow_g (g_eq rfl rfl) rfl ?_
  refine ow_g (g_as rfl) rfl ?_
  refine ow_nil ?_
  refine tw_keep [(0, _), (2, _), (4, _)] ⟨rfl, rfl, rfl, trivial⟩ ?_
  refine tw_seq ?_
  refine tw_region ?_
  refine ow_g (g_mv rfl) rfl ?_
  refine ow_d (d_call (vs := [_]) rfl (clone_any _ xs _ (by first | assumption | exact Own.rd (by assumption) | exact Rd.keep0 (by assumption) hB | exact Own.rd (Own.keep0 (by assumption) hB)) (by omega))) rfl ?_
  rintro v1 w2 ⟨o1, k2, _⟩
  have gl_o1 := hB.size
  have sb_b1_o1 := fun x hx => (show x ≠ b1 from by have h1 := (o1.blk x hx).1; have h2 := hb1.lt; omega)
  replace hb1 := hb1.keep0 k2
  replace hB := hB.trans k2
  have u_o1 := o1.blk
  refine ow_g (g_as rfl) rfl ?_
  refine ow_nil ?_
  refine tw_keep [(2, _), (4, _), (5, _)] ⟨rfl, rfl, rfl, trivial⟩ ?_
  refine tw_seq ?_
  refine tw_region ?_
  refine ow_g (g_mv rfl) rfl ?_
  refine ow_g (g_ix Try.underlying22 ty5 rfl (by first | assumption | exact Own.rd (by assumption) | exact Rd.keep0 (by assumption) hB | exact Own.rd (Own.keep0 (by assumption) hB)) rfl (by omega)) rfl ?_
  refine ow_g (g_ldB sc5 rfl (by first | assumption | exact Own.rd (by assumption) | exact Rd.keep0 (by assumption) hB | exact Own.rd (Own.keep0 (by assumption) hB)) (by omega)) rfl ?_
  refine ow_g (g_andNot rfl rfl) rfl ?_
  refine ow_g (g_ix Try.underlying22 ty5 rfl (by first | assumption | exact Own.rd (by assumption) | exact Rd.keep0 (by assumption) hB | exact Own.rd (Own.keep0 (by assumption) hB)) rfl (by omega)) rfl ?_
  refine ow_d0 (d_sto (u := .int .u8 _) ty5 rfl rfl rfl o1 (by rw [bv_length, hx]; decide)) ?_
  rintro _ w99 ⟨ow2, k99, z99⟩
  replace hB := hB.new k99 (fun x hx => .inl (Nat.le_trans gl_o1 (o1.blk x hx).1))
  replace ow2 : OwnB w99 w.heap.size v1 (decLow xs) := by unfold OwnB decLow; rw [List.length_set, ← bv_setB (bits_in (k := .u8) rfl _ _ _)]; exact ow2.lo gl_o1
  replace hb1 := hb1.keep k99 (fun hm => sb_b1_o1 _ hm rfl)
  refine ow_nil ?_
  refine tw_keep [(2, _), (4, _), (5, _)] ⟨rfl, rfl, rfl, trivial⟩ ?_
  refine tw_seq ?_
  refine tw_region ?_
  refine ow_g (g_mv rfl) rfl ?_
  refine ow_d (d_call (vs := [_]) rfl (from_any _ (decLow xs) _ ow2.rd (decLow_len xs hx))) rfl ?_
  rintro _ w3 ⟨hh1, rfl, E1, k3⟩
  replace hb1 := hb1.keep0 k3
  replace ow2 := ow2.keep0 k3
  replace hB := hB.trans k3
  refine ow_g (g_mv rfl) rfl ?_
  refine ow_g (g_ext (vs := [_, _]) rfl rfl) rfl ?_
  refine ow_g (g_ext (vs := [_, _]) rfl rfl) rfl ?_
  refine ow_d (d_alloc ty28) rfl ?_
  rintro _ w4 ⟨b2, rfl, eb2, hb2, k4, z3⟩
  have ge_b2 : w.heap.size ≤ b2 := by have := hB.size; omega
  have ne_b1_b2 : b1 ≠ b2 := by have := hb1.lt; omega
  have sb_b2_ow2 := fun x hx => (show x ≠ b2 from by have := (ow2.blk x hx).2; omega)
  replace hb1 := hb1.keep0 k4
  replace ow2 := ow2.keep0 k4
  replace hB := hB.trans k4
  clear eb2 z3
  refine ow_d0 (d_sta ty28 rfl rfl rfl ivF_one hb2 rfl) ?_
  rintro _ w5 ⟨hb3, k5, z4⟩
  replace hb1 := hb1.keep k5 (fun hm => absurd (List.mem_singleton.1 hm) ne_b1_b2)
  replace ow2 := ow2.keep k5 (fun x hx hm => sb_b2_ow2 x hx (List.mem_singleton.1 hm))
  replace hB := hB.new k5 (fun x hx => .inl ((List.mem_singleton.1 hx) ▸ ge_b2))
  clear z4
  replace hb3 : Bk w5 b2 _ [.int .u64 (hh1 0), .int .u64 (hh1 1), .int .u64 (hh1 2), .int .u64 (hh1 3), .int .u64 (hh1 4)] := hb3
  refine ow_g (g_as rfl) rfl ?_
  refine ow_nil ?_
  refine tw_keep [(2, _), (4, _), (5, _), (6, _)] ⟨rfl, rfl, rfl, rfl, trivial⟩ ?_
  refine tw_seq ?_
  refine tw_seq ?_
  refine tw_region ?_
  refine ow_g (g_ldab (cs' := [_, _, _, _, _]) ag28 ty28 rfl hb3 rfl rfl) rfl ?_
  refine ow_d (d_call (vs := [_]) rfl (nbytes_any _ _ E1 _)) rfl ?_
  rintro v2 w6 ⟨o2, k6⟩
  have gl_o2 := hB.size
  have sb_b1_o2 := fun x hx => (show x ≠ b1 from by have h1 := (o2.blk x hx).1; have h2 := hb1.lt; omega)
  have sb_b2_o2 := fun x hx => (show x ≠ b2 from by have h1 := (o2.blk x hx).1; have h2 := hb3.lt; omega)
  replace hb1 := hb1.keep0 k6
  replace ow2 := ow2.keep0 k6
  replace hb3 := hb3.keep0 k6
  replace hB := hB.trans k6
  have u_o2 := o2.blk
  refine ow_g (g_mv rfl) rfl ?_
  refine ow_d (d_call (vs := [_, _]) rfl (equal_any _ _ (fpB (fp (leI (decLow xs)))) (decLow xs) _ o2.rd ow2.rd)) rfl ?_
  rintro _ w7 ⟨rfl, k7⟩
  replace hb1 := hb1.keep0 k7
  replace ow2 := ow2.keep0 k7
  replace hb3 := hb3.keep0 k7
  replace o2 := o2.keep0 k7
  replace hB := hB.trans k7
  refine ow_g (g_notd rfl) rfl ?_
  refine ow_nil ?_
  refine tw_keep [(2, _), (4, _), (6, _), (39, _)] ⟨rfl, rfl, rfl, rfl, trivial⟩ ?_
  refine tw_if rfl (fun hc1 => ?_) (fun hc1 => ?_)
  · -- yes
    refine tw_seq ?_
    refine tw_region ?_
    refine ow_g (g_bld (idx := []) (xs := []) (vs := []) (css := []) (out := [_, _, _, _, _, _, _, _, _, _, _, _, _, _, _, _, _, _, _, _]) pl30 ty30 rfl rfl trivial rfl rfl) rfl ?_
    refine ow_d0 (d_sta ty30 rfl rfl rfl (by simp only [List.forall_mem_cons]; refine ⟨rfl, rfl, rfl, rfl, rfl, rfl, rfl, rfl, rfl, rfl, rfl, rfl, rfl, rfl, rfl, rfl, rfl, rfl, rfl, rfl, fun v hv => by cases hv⟩) hb1 rfl) ?_
    rintro _ w8 ⟨hb4, k8, z5⟩
    replace ow2 := ow2.keep k8 (fun x hx hm => sb_b1_o1 x hx (List.mem_singleton.1 hm))
    replace hb3 := hb3.keep k8 (fun hm => absurd (List.mem_singleton.1 hm) (Ne.symm ne_b1_b2))
    replace o2 := o2.keep k8 (fun x hx hm => sb_b1_o2 x hx (List.mem_singleton.1 hm))
    replace hB := hB.new k8 (fun x hx => .inl ((List.mem_singleton.1 hx) ▸ ge_b1))
    clear z5
    replace hb4 : Bk w8 b1 _ [.int .u64 0, .int .u64 0, .int .u64 0, .int .u64 0, .int .u64 0, .int .u64 0, .int .u64 0, .int .u64 0, .int .u64 0, .int .u64 0, .int .u64 0, .int .u64 0, .int .u64 0, .int .u64 0, .int .u64 0, .int .u64 0, .int .u64 0, .int .u64 0, .int .u64 0, .int .u64 0] := hb4
    refine ow_g (g_as rfl) rfl ?_
    refine ow_nil ?_
    refine tw_keep [(2, _), (3, _)] ⟨rfl, rfl, trivial⟩ ?_
    refine tw_retct hfin Try.results9 rfl (run_loadAgg ag30 ty30 (by assumption) rfl) rfl ?_
    have he := dec_e1 hx hc1
    exact ⟨fun _ => 0, by rw [he]; rfl, fun h => by rw [he] at h; exact absurd h (by decide), fun _ => rfl, hB⟩
  · -- no
    refine tw_skip ?_
    refine tw_seq ?_
    refine tw_region ?_
    refine ow_d (d_call (vs := [_]) rfl (Small_any _ (by decide) _)) rfl ?_
    rintro _ w9 ⟨hh2, rfl, E2, k9⟩
    replace hb1 := hb1.keep0 k9
    replace ow2 := ow2.keep0 k9
    replace hb3 := hb3.keep0 k9
    replace o2 := o2.keep0 k9
    replace hB := hB.trans k9
    refine ow_d (d_alloc ty28) rfl ?_
    rintro _ w10 ⟨b3, rfl, eb3, hb5, k10, z6⟩
    have ge_b3 : w.heap.size ≤ b3 := by have := hB.size; omega
    have ne_b1_b3 : b1 ≠ b3 := by have := hb1.lt; omega
    have sb_b3_ow2 := fun x hx => (show x ≠ b3 from by have := (ow2.blk x hx).2; omega)
    have ne_b2_b3 : b2 ≠ b3 := by have := hb3.lt; omega
    have sb_b3_o2 := fun x hx => (show x ≠ b3 from by have := (o2.blk x hx).2; omega)
    replace hb1 := hb1.keep0 k10
    replace ow2 := ow2.keep0 k10
    replace hb3 := hb3.keep0 k10
    replace o2 := o2.keep0 k10
    replace hB := hB.trans k10
    clear eb3 z6
    refine ow_d0 (d_sta ty28 rfl rfl rfl ivF_one hb5 rfl) ?_
    rintro _ w11 ⟨hb6, k11, z7⟩
    replace hb1 := hb1.keep k11 (fun hm => absurd (List.mem_singleton.1 hm) ne_b1_b3)
    replace ow2 := ow2.keep k11 (fun x hx hm => sb_b3_ow2 x hx (List.mem_singleton.1 hm))
    replace hb3 := hb3.keep k11 (fun hm => absurd (List.mem_singleton.1 hm) ne_b2_b3)
    replace o2 := o2.keep k11 (fun x hx hm => sb_b3_o2 x hx (List.mem_singleton.1 hm))
    replace hB := hB.new k11 (fun x hx => .inl ((List.mem_singleton.1 hx) ▸ ge_b3))
    clear z7
    replace hb6 : Bk w11 b3 _ [.int .u64 (hh2 0), .int .u64 (hh2 1), .int .u64 (hh2 2), .int .u64 (hh2 3), .int .u64 (hh2 4)] := hb6
    refine ow_nil ?_
    refine tw_keep [(2, _), (4, _), (6, _), (8, _)] ⟨rfl, rfl, rfl, rfl, trivial⟩ ?_
    refine tw_seq ?_
    refine tw_region ?_
    refine ow_g (g_ldab (cs' := [_, _, _, _, _]) ag28 ty28 rfl hb3 rfl rfl) rfl ?_
    refine ow_g (g_ldab (cs' := [_, _, _, _, _]) ag28 ty28 rfl hb3 rfl rfl) rfl ?_
    refine ow_d (d_call (vs := [_, _]) rfl (ntimes_any _ _ _ _ E1 E1 _)) rfl ?_
    rintro _ w12 ⟨hh3, rfl, E3, k12⟩
    replace hb1 := hb1.keep0 k12
    replace ow2 := ow2.keep0 k12
    replace hb3 := hb3.keep0 k12
    replace o2 := o2.keep0 k12
    replace hb6 := hb6.keep0 k12
    replace hB := hB.trans k12
    refine ow_d (d_alloc ty28) rfl ?_
    rintro _ w13 ⟨b4, rfl, eb4, hb7, k13, z8⟩
    have ge_b4 : w.heap.size ≤ b4 := by have := hB.size; omega
    have ne_b1_b4 : b1 ≠ b4 := by have := hb1.lt; omega
    have sb_b4_ow2 := fun x hx => (show x ≠ b4 from by have := (ow2.blk x hx).2; omega)
    have ne_b2_b4 : b2 ≠ b4 := by have := hb3.lt; omega
    have sb_b4_o2 := fun x hx => (show x ≠ b4 from by have := (o2.blk x hx).2; omega)
    have ne_b3_b4 : b3 ≠ b4 := by have := hb6.lt; omega
    replace hb1 := hb1.keep0 k13
    replace ow2 := ow2.keep0 k13
    replace hb3 := hb3.keep0 k13
    replace o2 := o2.keep0 k13
    replace hb6 := hb6.keep0 k13
    replace hB := hB.trans k13
    clear eb4 z8
    refine ow_d0 (d_sta ty28 rfl rfl rfl ivF_one hb7 rfl) ?_
    rintro _ w14 ⟨hb8, k14, z9⟩
    replace hb1 := hb1.keep k14 (fun hm => absurd (List.mem_singleton.1 hm) ne_b1_b4)
    replace ow2 := ow2.keep k14 (fun x hx hm => sb_b4_ow2 x hx (List.mem_singleton.1 hm))
    replace hb3 := hb3.keep k14 (fun hm => absurd (List.mem_singleton.1 hm) ne_b2_b4)
    replace o2 := o2.keep k14 (fun x hx hm => sb_b4_o2 x hx (List.mem_singleton.1 hm))
    replace hb6 := hb6.keep k14 (fun hm => absurd (List.mem_singleton.1 hm) ne_b3_b4)
    replace hB := hB.new k14 (fun x hx => .inl ((List.mem_singleton.1 hx) ▸ ge_b4))
    clear z9
    replace hb8 : Bk w14 b4 _ [.int .u64 (hh3 0), .int .u64 (hh3 1), .int .u64 (hh3 2), .int .u64 (hh3 3), .int .u64 (hh3 4)] := hb8
    refine ow_nil ?_
    refine tw_keep [(2, _), (4, _), (6, _), (8, _), (9, _)] ⟨rfl, rfl, rfl, rfl, rfl, trivial⟩ ?_
    refine tw_seq ?_
    refine tw_plan 17 [0, 1, 5, 7, 2, 3, 4, 6, 8, 9, 10, 11, 12, 13, 14, 15, 16] [2, 3, 4, 6, 8, 9, 10] [] mixed [(9, _), (8, _), (2, _), (4, _), (6, _)] ⟨rfl, rfl, rfl, rfl, rfl, trivial⟩ (by decide +kernel) rfl (fun w15 k15 => ?_)
    replace hb1 := hb1.keep0 k15
    replace ow2 := ow2.keep0 k15
    replace hb3 := hb3.keep0 k15
    replace o2 := o2.keep0 k15
    replace hb6 := hb6.keep0 k15
    replace hb8 := hb8.keep0 k15
    replace hB := hB.trans k15
    refine pw_g [(9, _)] rfl rfl ⟨rfl, trivial⟩ rfl (fun W' kk => g_ldab (cs' := [_, _, _, _, _]) ag28 ty28 rfl (Bk.keep0 hb8 kk) rfl rfl) ?_
    refine pw_g [(8, _)] rfl rfl ⟨rfl, trivial⟩ rfl (fun W' kk => g_ldab (cs' := [_, _, _, _, _]) ag28 ty28 rfl (Bk.keep0 hb6 kk) rfl rfl) ?_
    refine pw_g [(9, _)] rfl rfl ⟨rfl, trivial⟩ rfl (fun W' kk => g_ldab (cs' := [_, _, _, _, _]) ag28 ty28 rfl (Bk.keep0 hb8 kk) rfl rfl) ?_
    refine pw_g [(8, _)] rfl rfl ⟨rfl, trivial⟩ rfl (fun W' kk => g_ldab (cs' := [_, _, _, _, _]) ag28 ty28 rfl (Bk.keep0 hb6 kk) rfl rfl) ?_
    refine pw_d [(46, _), (47, _)] rfl rfl ⟨rfl, rfl, trivial⟩ rfl (d_call (vs := [_, _]) rfl (nminus_any _ _ _ _ E3 E2 _)) ?_
    rintro _ w16 ⟨hh4, rfl, E4, k16⟩
    refine ⟨k16, ?_⟩
    replace hb1 := hb1.keep0 k16
    replace ow2 := ow2.keep0 k16
    replace hb3 := hb3.keep0 k16
    replace o2 := o2.keep0 k16
    replace hb6 := hb6.keep0 k16
    replace hb8 := hb8.keep0 k16
    replace hB := hB.trans k16
    refine pw_d [(48, _)] rfl rfl ⟨rfl, trivial⟩ rfl (d_call (vs := [_]) rfl (nbytes_any _ _ E4 _)) ?_
    rintro v3 w17 ⟨o3, k17⟩
    refine ⟨k17, ?_⟩
    have gl_o3 := hB.size
    have sb_b1_o3 := fun x hx => (show x ≠ b1 from by have h1 := (o3.blk x hx).1; have h2 := hb1.lt; omega)
    have sb_b2_o3 := fun x hx => (show x ≠ b2 from by have h1 := (o3.blk x hx).1; have h2 := hb3.lt; omega)
    have sb_b3_o3 := fun x hx => (show x ≠ b3 from by have h1 := (o3.blk x hx).1; have h2 := hb6.lt; omega)
    have sb_b4_o3 := fun x hx => (show x ≠ b4 from by have h1 := (o3.blk x hx).1; have h2 := hb8.lt; omega)
    replace hb1 := hb1.keep0 k17
    replace ow2 := ow2.keep0 k17
    replace hb3 := hb3.keep0 k17
    replace o2 := o2.keep0 k17
    replace hb6 := hb6.keep0 k17
    replace hb8 := hb8.keep0 k17
    replace hB := hB.trans k17
    have u_o3 := o3.blk
    refine pw_d [] rfl rfl trivial rfl (d_call (vs := []) rfl (pd_any _)) ?_
    rintro _ w18 ⟨hh5, rfl, E5, k18⟩
    refine ⟨k18, ?_⟩
    replace hb1 := hb1.keep0 k18
    replace ow2 := ow2.keep0 k18
    replace hb3 := hb3.keep0 k18
    replace o2 := o2.keep0 k18
    replace hb6 := hb6.keep0 k18
    replace hb8 := hb8.keep0 k18
    replace o3 := o3.keep0 k18
    replace hB := hB.trans k18
    refine pw_d [(50, _), (51, _)] rfl rfl ⟨rfl, rfl, trivial⟩ rfl (d_call (vs := [_, _]) rfl (ntimes_any _ _ _ _ E5 E3 _)) ?_
    rintro _ w19 ⟨hh6, rfl, E6, k19⟩
    refine ⟨k19, ?_⟩
    replace hb1 := hb1.keep0 k19
    replace ow2 := ow2.keep0 k19
    replace hb3 := hb3.keep0 k19
    replace o2 := o2.keep0 k19
    replace hb6 := hb6.keep0 k19
    replace hb8 := hb8.keep0 k19
    replace o3 := o3.keep0 k19
    replace hB := hB.trans k19
    refine pw_d [(52, _), (53, _)] rfl rfl ⟨rfl, rfl, trivial⟩ rfl (d_call (vs := [_, _]) rfl (nplus_any _ _ _ _ E6 E2 _)) ?_
    rintro _ w20 ⟨hh7, rfl, E7, k20⟩
    refine ⟨k20, ?_⟩
    replace hb1 := hb1.keep0 k20
    replace ow2 := ow2.keep0 k20
    replace hb3 := hb3.keep0 k20
    replace o2 := o2.keep0 k20
    replace hb6 := hb6.keep0 k20
    replace hb8 := hb8.keep0 k20
    replace o3 := o3.keep0 k20
    replace hB := hB.trans k20
    refine pw_d [(54, _)] rfl rfl ⟨rfl, trivial⟩ rfl (d_call (vs := [_]) rfl (nbytes_any _ _ E7 _)) ?_
    rintro v4 w21 ⟨o4, k21⟩
    refine ⟨k21, ?_⟩
    have gl_o4 := hB.size
    have sb_b1_o4 := fun x hx => (show x ≠ b1 from by have h1 := (o4.blk x hx).1; have h2 := hb1.lt; omega)
    have sb_b2_o4 := fun x hx => (show x ≠ b2 from by have h1 := (o4.blk x hx).1; have h2 := hb3.lt; omega)
    have sb_b3_o4 := fun x hx => (show x ≠ b3 from by have h1 := (o4.blk x hx).1; have h2 := hb6.lt; omega)
    have sb_b4_o4 := fun x hx => (show x ≠ b4 from by have h1 := (o4.blk x hx).1; have h2 := hb8.lt; omega)
    replace hb1 := hb1.keep0 k21
    replace ow2 := ow2.keep0 k21
    replace hb3 := hb3.keep0 k21
    replace o2 := o2.keep0 k21
    replace hb6 := hb6.keep0 k21
    replace hb8 := hb8.keep0 k21
    replace o3 := o3.keep0 k21
    replace hB := hB.trans k21
    have u_o4 := o4.blk
    refine pw_d [(49, _), (55, _)] rfl rfl ⟨rfl, rfl, trivial⟩ rfl (d_call (vs := [_, _]) rfl (Root_any _ _ (fpB (((fp (leI (decLow xs))) * (fp (leI (decLow xs)))) - (fp 1))) (fpB (((d) * ((fp (leI (decLow xs))) * (fp (leI (decLow xs))))) + (fp 1))) _ o3.rd (fpB_length _) o4.rd (fpB_length _))) ?_
    rintro _ w22 ⟨v5, rfl, o5, k22⟩
    refine ⟨k22, ?_⟩
    have gl_o5 := hB.size
    have sb_b1_o5 := fun x hx => (show x ≠ b1 from by have h1 := (o5.blk x hx).1; have h2 := hb1.lt; omega)
    have sb_b2_o5 := fun x hx => (show x ≠ b2 from by have h1 := (o5.blk x hx).1; have h2 := hb3.lt; omega)
    have sb_b3_o5 := fun x hx => (show x ≠ b3 from by have h1 := (o5.blk x hx).1; have h2 := hb6.lt; omega)
    have sb_b4_o5 := fun x hx => (show x ≠ b4 from by have h1 := (o5.blk x hx).1; have h2 := hb8.lt; omega)
    replace hb1 := hb1.keep0 k22
    replace ow2 := ow2.keep0 k22
    replace hb3 := hb3.keep0 k22
    replace o2 := o2.keep0 k22
    replace hb6 := hb6.keep0 k22
    replace hb8 := hb8.keep0 k22
    replace o3 := o3.keep0 k22
    replace o4 := o4.keep0 k22
    replace hB := hB.trans k22
    have u_o5 := o5.blk
    refine pw_g [(56, _)] rfl rfl ⟨rfl, trivial⟩ rfl (fun W' kk => g_mv rfl) ?_
    refine pw_g [(45, _)] rfl rfl ⟨rfl, trivial⟩ rfl (fun W' kk => g_ext (vs := [_, _, _]) rfl rfl) ?_
    refine pw_g [(45, _)] rfl rfl ⟨rfl, trivial⟩ rfl (fun W' kk => g_ext (vs := [_, _, _]) rfl rfl) ?_
    refine pw_g [(45, _)] rfl rfl ⟨rfl, trivial⟩ rfl (fun W' kk => g_ext (vs := [_, _, _]) rfl rfl) ?_
    refine pw_g [(57, _)] rfl rfl ⟨rfl, trivial⟩ rfl (fun W' kk => g_as rfl) ?_
    refine pw_g [(58, _)] rfl rfl ⟨rfl, trivial⟩ rfl (fun W' kk => g_as rfl) ?_
    refine pw_nil ?_
    refine ow_g (g_as rfl) rfl ?_
    refine ow_nil ?_
    refine tw_keep [(2, _), (4, _), (6, _), (0, _), (10, _)] ⟨rfl, rfl, rfl, rfl, rfl, trivial⟩ ?_
    refine tw_seq ?_
    refine tw_seq ?_
    refine tw_region ?_
    refine ow_g (g_mv rfl) rfl ?_
    refine ow_g (g_not rfl) rfl ?_
    refine ow_g (g_mv rfl) rfl ?_
    refine ow_grp 62 false rfl (fun c1 hgc1 => ?_)
    refine ow_gg [(4, _)] (grd1 rfl rfl rfl hgc1) ⟨und0 rfl, trivial⟩ (fun hw1 => g_mv rfl) rfl ?_
    refine ow_gg [(63, _)] (grd1 rfl rfl rfl hgc1) ⟨und1 rfl, trivial⟩ (fun hw2 => g_mv rfl) rfl ?_
    refine ow_grp2 64 true rfl (fun c2 hgc2 => ?_)
    refine ow_gg [(0, _)] (grd2 rfl rfl rfl hgc2) ⟨und0 rfl, trivial⟩ (fun hw3 => g_mv rfl) rfl ?_
    refine ow_gdk [(65, _)] (grd2 rfl rfl rfl hgc2) ⟨und1 rfl, trivial⟩ (fun hw4 => d_call (vs := [_]) rfl (maxv_any _ (fpB (rootF (fp (leI (fpB (((fp (leI (decLow xs))) * (fp (leI (decLow xs)))) - (fp 1))))) (fp (leI (fpB (((d) * ((fp (leI (decLow xs))) * (fp (leI (decLow xs))))) + (fp 1))))))) _ o5.rd (by rw [fpB_length]; decide))) rfl ?_
    rintro w24 k24
    replace hb1 := hb1.keep0 k24
    replace ow2 := ow2.keep0 k24
    replace hb3 := hb3.keep0 k24
    replace o2 := o2.keep0 k24
    replace hb6 := hb6.keep0 k24
    replace hb8 := hb8.keep0 k24
    replace o3 := o3.keep0 k24
    replace o4 := o4.keep0 k24
    replace o5 := o5.keep0 k24
    replace hB := hB.trans k24
    refine ow_gg [(66, _)] (grd2 rfl rfl rfl hgc2) ⟨und1 rfl, trivial⟩ (fun hw5 => g_eq rfl rfl) rfl ?_
    refine ow_pand (grd1 rfl rfl rfl hgc1) (und1 rfl) rfl hgc2 rfl ?_
    refine ow_g (g_por rfl rfl hgc1) rfl ?_
    refine ow_nil ?_
    refine tw_keep [(2, _), (4, _), (6, _), (0, _), (69, _)] ⟨rfl, rfl, rfl, rfl, rfl, trivial⟩ ?_
    refine tw_cond rfl (fun hc2 => ?_) (fun hc2 => ?_)
    · -- yes
      have hd1 := hc2
      try (simp only [Bool.and_eq_true, Bool.or_eq_true, decide_eq_true_eq, Bool.and_eq_false_iff, Bool.or_eq_false_iff, decide_eq_false_iff_not, Bool.not_eq_true', Bool.not_eq_false', Bool.not_eq_true, Bool.not_eq_false, ne_eq, Decidable.not_not, decide_true, decide_false, Bool.true_and, Bool.false_and, Bool.or_false, Bool.false_or, not_true_eq_false, false_or, or_false, true_and, and_true, not_false_eq_true, reduceCtorEq] at hd1)
      refine tw_seq ?_
      refine tw_region ?_
      refine ow_g (g_bld (idx := []) (xs := []) (vs := []) (css := []) (out := [_, _, _, _, _, _, _, _, _, _, _, _, _, _, _, _, _, _, _, _]) pl30 ty30 rfl rfl trivial rfl rfl) rfl ?_
      refine ow_d0 (d_sta ty30 rfl rfl rfl (by simp only [List.forall_mem_cons]; refine ⟨rfl, rfl, rfl, rfl, rfl, rfl, rfl, rfl, rfl, rfl, rfl, rfl, rfl, rfl, rfl, rfl, rfl, rfl, rfl, rfl, fun v hv => by cases hv⟩) hb1 rfl) ?_
      rintro _ w25 ⟨hb9, k25, z10⟩
      replace ow2 := ow2.keep k25 (fun x hx hm => sb_b1_o1 x hx (List.mem_singleton.1 hm))
      replace hb3 := hb3.keep k25 (fun hm => absurd (List.mem_singleton.1 hm) (Ne.symm ne_b1_b2))
      replace o2 := o2.keep k25 (fun x hx hm => sb_b1_o2 x hx (List.mem_singleton.1 hm))
      replace hb6 := hb6.keep k25 (fun hm => absurd (List.mem_singleton.1 hm) (Ne.symm ne_b1_b3))
      replace hb8 := hb8.keep k25 (fun hm => absurd (List.mem_singleton.1 hm) (Ne.symm ne_b1_b4))
      replace o3 := o3.keep k25 (fun x hx hm => sb_b1_o3 x hx (List.mem_singleton.1 hm))
      replace o4 := o4.keep k25 (fun x hx hm => sb_b1_o4 x hx (List.mem_singleton.1 hm))
      replace o5 := o5.keep k25 (fun x hx hm => sb_b1_o5 x hx (List.mem_singleton.1 hm))
      replace hB := hB.new k25 (fun x hx => .inl ((List.mem_singleton.1 hx) ▸ ge_b1))
      clear z10
      replace hb9 : Bk w25 b1 _ [.int .u64 0, .int .u64 0, .int .u64 0, .int .u64 0, .int .u64 0, .int .u64 0, .int .u64 0, .int .u64 0, .int .u64 0, .int .u64 0, .int .u64 0, .int .u64 0, .int .u64 0, .int .u64 0, .int .u64 0, .int .u64 0, .int .u64 0, .int .u64 0, .int .u64 0, .int .u64 0] := hb9
      refine ow_g (g_as rfl) rfl ?_
      refine ow_nil ?_
      refine tw_keep [(2, _), (3, _)] ⟨rfl, rfl, trivial⟩ ?_
      refine tw_retct hfin Try.results9 rfl (run_loadAgg ag30 ty30 (by assumption) rfl) rfl ?_
      have he := dec_e2 (z := 0) hx hc1 (dec_b h1 rfl rfl hc2)
      exact ⟨fun _ => 0, by rw [he]; rfl, fun h => by rw [he] at h; exact absurd h (by decide), fun _ => rfl, hB⟩
    · -- no
      have hd2 := hc2
      try (simp only [Bool.and_eq_true, Bool.or_eq_true, decide_eq_true_eq, Bool.and_eq_false_iff, Bool.or_eq_false_iff, decide_eq_false_iff_not, Bool.not_eq_true', Bool.not_eq_false', Bool.not_eq_true, Bool.not_eq_false, ne_eq, Decidable.not_not, decide_true, decide_false, Bool.true_and, Bool.false_and, Bool.or_false, Bool.false_or, not_true_eq_false, false_or, or_false, true_and, and_true, not_false_eq_true, reduceCtorEq] at hd2)
      refine tw_skip ?_
      refine tw_seq ?_
      refine tw_region ?_
      refine ow_g (g_mv rfl) rfl ?_
      refine ow_d (d_call (vs := [_]) rfl (from_any _ (fpB (rootF (fp (leI (fpB (((fp (leI (decLow xs))) * (fp (leI (decLow xs)))) - (fp 1))))) (fp (leI (fpB (((d) * ((fp (leI (decLow xs))) * (fp (leI (decLow xs))))) + (fp 1))))))) _ o5.rd (fpB_length _))) rfl ?_
      rintro _ w26 ⟨hh8, rfl, E8, k26⟩
      replace hb1 := hb1.keep0 k26
      replace ow2 := ow2.keep0 k26
      replace hb3 := hb3.keep0 k26
      replace o2 := o2.keep0 k26
      replace hb6 := hb6.keep0 k26
      replace hb8 := hb8.keep0 k26
      replace o3 := o3.keep0 k26
      replace o4 := o4.keep0 k26
      replace o5 := o5.keep0 k26
      replace hB := hB.trans k26
      refine ow_g (g_mv rfl) rfl ?_
      refine ow_g (g_ext (vs := [_, _]) rfl rfl) rfl ?_
      refine ow_g (g_ext (vs := [_, _]) rfl rfl) rfl ?_
      refine ow_d (d_alloc ty28) rfl ?_
      rintro _ w27 ⟨b5, rfl, eb5, hb10, k27, z11⟩
      have ge_b5 : w.heap.size ≤ b5 := by have := hB.size; omega
      have ne_b1_b5 : b1 ≠ b5 := by have := hb1.lt; omega
      have sb_b5_ow2 := fun x hx => (show x ≠ b5 from by have := (ow2.blk x hx).2; omega)
      have ne_b2_b5 : b2 ≠ b5 := by have := hb3.lt; omega
      have sb_b5_o2 := fun x hx => (show x ≠ b5 from by have := (o2.blk x hx).2; omega)
      have ne_b3_b5 : b3 ≠ b5 := by have := hb6.lt; omega
      have ne_b4_b5 : b4 ≠ b5 := by have := hb8.lt; omega
      have sb_b5_o3 := fun x hx => (show x ≠ b5 from by have := (o3.blk x hx).2; omega)
      have sb_b5_o4 := fun x hx => (show x ≠ b5 from by have := (o4.blk x hx).2; omega)
      have sb_b5_o5 := fun x hx => (show x ≠ b5 from by have := (o5.blk x hx).2; omega)
      replace hb1 := hb1.keep0 k27
      replace ow2 := ow2.keep0 k27
      replace hb3 := hb3.keep0 k27
      replace o2 := o2.keep0 k27
      replace hb6 := hb6.keep0 k27
      replace hb8 := hb8.keep0 k27
      replace o3 := o3.keep0 k27
      replace o4 := o4.keep0 k27
      replace o5 := o5.keep0 k27
      replace hB := hB.trans k27
      clear eb5 z11
      refine ow_d0 (d_sta ty28 rfl rfl rfl ivF_one hb10 rfl) ?_
      rintro _ w28 ⟨hb11, k28, z12⟩
      replace hb1 := hb1.keep k28 (fun hm => absurd (List.mem_singleton.1 hm) ne_b1_b5)
      replace ow2 := ow2.keep k28 (fun x hx hm => sb_b5_ow2 x hx (List.mem_singleton.1 hm))
      replace hb3 := hb3.keep k28 (fun hm => absurd (List.mem_singleton.1 hm) ne_b2_b5)
      replace o2 := o2.keep k28 (fun x hx hm => sb_b5_o2 x hx (List.mem_singleton.1 hm))
      replace hb6 := hb6.keep k28 (fun hm => absurd (List.mem_singleton.1 hm) ne_b3_b5)
      replace hb8 := hb8.keep k28 (fun hm => absurd (List.mem_singleton.1 hm) ne_b4_b5)
      replace o3 := o3.keep k28 (fun x hx hm => sb_b5_o3 x hx (List.mem_singleton.1 hm))
      replace o4 := o4.keep k28 (fun x hx hm => sb_b5_o4 x hx (List.mem_singleton.1 hm))
      replace o5 := o5.keep k28 (fun x hx hm => sb_b5_o5 x hx (List.mem_singleton.1 hm))
      replace hB := hB.new k28 (fun x hx => .inl ((List.mem_singleton.1 hx) ▸ ge_b5))
      clear z12
      replace hb11 : Bk w28 b5 _ [.int .u64 (hh8 0), .int .u64 (hh8 1), .int .u64 (hh8 2), .int .u64 (hh8 3), .int .u64 (hh8 4)] := hb11
      refine ow_g (g_as rfl) rfl ?_
      refine ow_nil ?_
      refine tw_keep [(2, _), (4, _), (6, _), (12, _)] ⟨rfl, rfl, rfl, rfl, trivial⟩ ?_
      refine tw_seq ?_
      refine tw_seq ?_
      refine tw_region ?_
      refine ow_g (g_mv rfl) rfl ?_
      refine ow_nil ?_
      refine tw_keep [(2, _), (6, _), (12, _), (76, _)] ⟨rfl, rfl, rfl, rfl, trivial⟩ ?_
      refine tw_if rfl (fun hc3 => ?_) (fun hc3 => ?_)
      · -- yes
        refine tw_region ?_
        refine ow_g (g_bld (idx := []) (xs := []) (vs := []) (css := []) (out := [_, _, _, _, _]) pl28 ty28 rfl rfl trivial rfl rfl) rfl ?_
        refine ow_g (g_ldab (cs' := [_, _, _, _, _]) ag28 ty28 rfl hb11 rfl rfl) rfl ?_
        refine ow_d (d_call (vs := [_, _]) rfl (nminus_any _ _ _ _ el_zero E8 _)) rfl ?_
        rintro _ w29 ⟨hh9, rfl, E9, k29⟩
        replace hb1 := hb1.keep0 k29
        replace ow2 := ow2.keep0 k29
        replace hb3 := hb3.keep0 k29
        replace o2 := o2.keep0 k29
        replace hb6 := hb6.keep0 k29
        replace hb8 := hb8.keep0 k29
        replace o3 := o3.keep0 k29
        replace o4 := o4.keep0 k29
        replace o5 := o5.keep0 k29
        replace hb11 := hb11.keep0 k29
        replace hB := hB.trans k29
        refine ow_d0 (d_sta ty28 rfl rfl rfl ivF_one hb11 rfl) ?_
        rintro _ w30 ⟨hb12, k30, z13⟩
        replace hb1 := hb1.keep k30 (fun hm => absurd (List.mem_singleton.1 hm) ne_b1_b5)
        replace ow2 := ow2.keep k30 (fun x hx hm => sb_b5_ow2 x hx (List.mem_singleton.1 hm))
        replace hb3 := hb3.keep k30 (fun hm => absurd (List.mem_singleton.1 hm) ne_b2_b5)
        replace o2 := o2.keep k30 (fun x hx hm => sb_b5_o2 x hx (List.mem_singleton.1 hm))
        replace hb6 := hb6.keep k30 (fun hm => absurd (List.mem_singleton.1 hm) ne_b3_b5)
        replace hb8 := hb8.keep k30 (fun hm => absurd (List.mem_singleton.1 hm) ne_b4_b5)
        replace o3 := o3.keep k30 (fun x hx hm => sb_b5_o3 x hx (List.mem_singleton.1 hm))
        replace o4 := o4.keep k30 (fun x hx hm => sb_b5_o4 x hx (List.mem_singleton.1 hm))
        replace o5 := o5.keep k30 (fun x hx hm => sb_b5_o5 x hx (List.mem_singleton.1 hm))
        replace hB := hB.new k30 (fun x hx => .inl ((List.mem_singleton.1 hx) ▸ ge_b5))
        clear z13
        replace hb12 : Bk w30 b5 _ [.int .u64 (hh9 0), .int .u64 (hh9 1), .int .u64 (hh9 2), .int .u64 (hh9 3), .int .u64 (hh9 4)] := hb12
        refine ow_nil ?_
        refine tw_keep [(2, _), (6, _), (12, _)] ⟨rfl, rfl, rfl, trivial⟩ ?_
        refine tw_seq ?_
        refine tw_region ?_
        refine ow_g (g_ldab (cs' := [_, _, _, _, _]) ag28 ty28 rfl hb12 rfl rfl) rfl ?_
        refine ow_g (g_ldab (cs' := [_, _, _, _, _]) ag28 ty28 rfl hb3 rfl rfl) rfl ?_
        refine ow_d (d_call (vs := [_, _]) rfl (affine_any _ _ _ _ E9 E1 _)) rfl ?_
        rintro _ w31 ⟨hh10, rfl, E10, k31⟩
        replace hb1 := hb1.keep0 k31
        replace ow2 := ow2.keep0 k31
        replace hb3 := hb3.keep0 k31
        replace o2 := o2.keep0 k31
        replace hb6 := hb6.keep0 k31
        replace hb8 := hb8.keep0 k31
        replace o3 := o3.keep0 k31
        replace o4 := o4.keep0 k31
        replace o5 := o5.keep0 k31
        replace hb12 := hb12.keep0 k31
        replace hB := hB.trans k31
        refine ow_d0 (d_sta ty30 rfl rfl rfl ivF_one hb1 rfl) ?_
        rintro _ w32 ⟨hb13, k32, z14⟩
        replace ow2 := ow2.keep k32 (fun x hx hm => sb_b1_o1 x hx (List.mem_singleton.1 hm))
        replace hb3 := hb3.keep k32 (fun hm => absurd (List.mem_singleton.1 hm) (Ne.symm ne_b1_b2))
        replace o2 := o2.keep k32 (fun x hx hm => sb_b1_o2 x hx (List.mem_singleton.1 hm))
        replace hb6 := hb6.keep k32 (fun hm => absurd (List.mem_singleton.1 hm) (Ne.symm ne_b1_b3))
        replace hb8 := hb8.keep k32 (fun hm => absurd (List.mem_singleton.1 hm) (Ne.symm ne_b1_b4))
        replace o3 := o3.keep k32 (fun x hx hm => sb_b1_o3 x hx (List.mem_singleton.1 hm))
        replace o4 := o4.keep k32 (fun x hx hm => sb_b1_o4 x hx (List.mem_singleton.1 hm))
        replace o5 := o5.keep k32 (fun x hx hm => sb_b1_o5 x hx (List.mem_singleton.1 hm))
        replace hb12 := hb12.keep k32 (fun hm => absurd (List.mem_singleton.1 hm) (Ne.symm ne_b1_b5))
        replace hB := hB.new k32 (fun x hx => .inl ((List.mem_singleton.1 hx) ▸ ge_b1))
        clear z14
        replace hb13 : Bk w32 b1 _ [.int .u64 (hh10 0), .int .u64 (hh10 1), .int .u64 (hh10 2), .int .u64 (hh10 3), .int .u64 (hh10 4), .int .u64 (hh10 5), .int .u64 (hh10 6), .int .u64 (hh10 7), .int .u64 (hh10 8), .int .u64 (hh10 9), .int .u64 (hh10 10), .int .u64 (hh10 11), .int .u64 (hh10 12), .int .u64 (hh10 13), .int .u64 (hh10 14), .int .u64 (hh10 15), .int .u64 (hh10 16), .int .u64 (hh10 17), .int .u64 (hh10 18), .int .u64 (hh10 19)] := hb13
        refine ow_g (g_as rfl) rfl ?_
        refine ow_nil ?_
        refine tw_keep [(2, _), (3, _)] ⟨rfl, rfl, trivial⟩ ?_
        refine tw_retct hfin Try.results9 rfl (run_loadAgg ag30 ty30 (by assumption) rfl) rfl ?_
        have he := dec_e0 (z := 0) hx hc1 (dec_b h1 rfl rfl hc2)
        exact ⟨hh10, by rw [he]; rfl, fun _ => (by rw [dec_xT h1 rfl rfl hc3]; exact E10), fun h => absurd he h, hB⟩
      · -- no
        refine tw_skip ?_
        refine tw_seq ?_
        refine tw_region ?_
        refine ow_g (g_ldab (cs' := [_, _, _, _, _]) ag28 ty28 rfl hb11 rfl rfl) rfl ?_
        refine ow_g (g_ldab (cs' := [_, _, _, _, _]) ag28 ty28 rfl hb3 rfl rfl) rfl ?_
        refine ow_d (d_call (vs := [_, _]) rfl (affine_any _ _ _ _ E8 E1 _)) rfl ?_
        rintro _ w33 ⟨hh11, rfl, E11, k33⟩
        replace hb1 := hb1.keep0 k33
        replace ow2 := ow2.keep0 k33
        replace hb3 := hb3.keep0 k33
        replace o2 := o2.keep0 k33
        replace hb6 := hb6.keep0 k33
        replace hb8 := hb8.keep0 k33
        replace o3 := o3.keep0 k33
        replace o4 := o4.keep0 k33
        replace o5 := o5.keep0 k33
        replace hb11 := hb11.keep0 k33
        replace hB := hB.trans k33
        refine ow_d0 (d_sta ty30 rfl rfl rfl ivF_one hb1 rfl) ?_
        rintro _ w34 ⟨hb14, k34, z15⟩
        replace ow2 := ow2.keep k34 (fun x hx hm => sb_b1_o1 x hx (List.mem_singleton.1 hm))
        replace hb3 := hb3.keep k34 (fun hm => absurd (List.mem_singleton.1 hm) (Ne.symm ne_b1_b2))
        replace o2 := o2.keep k34 (fun x hx hm => sb_b1_o2 x hx (List.mem_singleton.1 hm))
        replace hb6 := hb6.keep k34 (fun hm => absurd (List.mem_singleton.1 hm) (Ne.symm ne_b1_b3))
        replace hb8 := hb8.keep k34 (fun hm => absurd (List.mem_singleton.1 hm) (Ne.symm ne_b1_b4))
        replace o3 := o3.keep k34 (fun x hx hm => sb_b1_o3 x hx (List.mem_singleton.1 hm))
        replace o4 := o4.keep k34 (fun x hx hm => sb_b1_o4 x hx (List.mem_singleton.1 hm))
        replace o5 := o5.keep k34 (fun x hx hm => sb_b1_o5 x hx (List.mem_singleton.1 hm))
        replace hb11 := hb11.keep k34 (fun hm => absurd (List.mem_singleton.1 hm) (Ne.symm ne_b1_b5))
        replace hB := hB.new k34 (fun x hx => .inl ((List.mem_singleton.1 hx) ▸ ge_b1))
        clear z15
        replace hb14 : Bk w34 b1 _ [.int .u64 (hh11 0), .int .u64 (hh11 1), .int .u64 (hh11 2), .int .u64 (hh11 3), .int .u64 (hh11 4), .int .u64 (hh11 5), .int .u64 (hh11 6), .int .u64 (hh11 7), .int .u64 (hh11 8), .int .u64 (hh11 9), .int .u64 (hh11 10), .int .u64 (hh11 11), .int .u64 (hh11 12), .int .u64 (hh11 13), .int .u64 (hh11 14), .int .u64 (hh11 15), .int .u64 (hh11 16), .int .u64 (hh11 17), .int .u64 (hh11 18), .int .u64 (hh11 19)] := hb14
        refine ow_g (g_as rfl) rfl ?_
        refine ow_nil ?_
        refine tw_keep [(2, _), (3, _)] ⟨rfl, rfl, trivial⟩ ?_
        refine tw_retct hfin Try.results9 rfl (run_loadAgg ag30 ty30 (by assumption) rfl) rfl ?_
        have he := dec_e0 (z := 0) hx hc1 (dec_b h1 rfl rfl hc2)
        exact ⟨hh11, by rw [he]; rfl, fun _ => (by rw [dec_xF h1 rfl rfl hc3]; exact E11), fun h => absurd he h, hB⟩

end Go.Proofs.Ytkngeapegpehpaa.W
