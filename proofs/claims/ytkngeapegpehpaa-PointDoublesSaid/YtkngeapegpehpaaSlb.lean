import Derived.Test.YtkngeapegpehpaaSla
import Derived.Test.YtkngeapegpehpaaFlp
import Derived.Test.YtkngeapegpehpaaEngT
namespace Go.Proofs.Ytkngeapegpehpaa.W
open Go Go.Eng Go.Byt
set_option linter.unusedVariables false
set_option linter.unusedSimpArgs false
open Go.Fld Go.Ed
def mxB (xs : List UInt8) : Nat → Int
  | 0 => gb xs 0
  | i + 1 => if gb xs ((i + 1 : Nat) : Int) > mxB xs i then gb xs ((i + 1 : Nat) : Int) else mxB xs i
theorem mxB_nn (xs : List UInt8) : ∀ i, 0 ≤ mxB xs i
  | 0 => (gb_range xs 0).1
  | i + 1 => by
    have := gb_range xs ((i + 1 : Nat) : Int)
    have := mxB_nn xs i
    unfold mxB; split <;> omega
theorem mxB_zero (xs : List UInt8) : ∀ i, mxB xs i = 0 ↔ ∀ j : Nat, j ≤ i → gb xs j = 0
  | 0 => ⟨fun h j hj => by obtain rfl : j = 0 := by omega
                           exact h, fun h => h 0 (Nat.le_refl _)⟩
  | i + 1 => by
    have ih := mxB_zero xs i
    have g := gb_range xs ((i + 1 : Nat) : Int)
    have hn := mxB_nn xs i
    constructor
    · intro h j hj
      unfold mxB at h
      by_cases hji : j ≤ i
      · exact ih.1 (by split at h <;> omega) j hji
      · obtain rfl : j = i + 1 := by omega
        split at h <;> omega
    · intro h
      unfold mxB
      rw [h (i + 1) (Nat.le_refl _), ih.2 (fun j hj => h j (by omega))]; rfl
theorem mxB_step {xs : List UInt8} {m i : Int} (h1 : 1 ≤ i) (h : m = mxB xs (i - 1).toNat) : (if gb xs i > m then gb xs i else m) = mxB xs (i + 1 - 1).toNat := by
  subst h
  have e : (i + 1 - 1).toNat = (i - 1).toNat + 1 := by omega
  rw [e, mxB, show (((i - 1).toNat + 1 : Nat) : Int) = i by omega]
set_option maxRecDepth 100000 in
set_option maxHeartbeats 1000000 in
theorem maxv_any (v : Value) (xs : List UInt8) (w : World) (hv : RdB w v xs) (hx : 0 < xs.length) : Rets Try.prog 42 [v] w (fun r w' => r = .int .u8 (mxB xs ((xs.length : Int) - 1).toNat) ∧ Keep [] w w') := by
  have hB : Keep [] w w := Keep.refl _ _
  have hle := hv.le
  refine rets_of_tw Try.func42 rfl (by decide) Try.ntmps42 rfl (fun fin _ hfin => ?_)
  refine tw_seq ?_
  refine tw_region ?_
  refine ow_g (g_as rfl) rfl ?_
  refine ow_nil ?_
  refine tw_seq ?_
  refine tw_seq ?_
  refine tw_region ?_
  refine ow_g (g_mv rfl) rfl ?_
  refine ow_g (g_len Try.underlying22 rfl (by first | assumption | exact Own.rd (by assumption) | exact Rd.keep0 (by assumption) hB | exact Own.rd (Own.keep0 (by assumption) hB))) rfl ?_
  refine ow_g (g_lt rfl rfl) rfl ?_
  refine ow_nil ?_
  refine tw_ifF rfl (by omega) ?_
  refine tw_skip ?_
  refine tw_seq ?_
  refine tw_region ?_
  refine ow_g (g_mv rfl) rfl ?_
  refine ow_g (g_ix Try.underlying22 ty5 rfl (by first | assumption | exact Own.rd (by assumption) | exact Rd.keep0 (by assumption) hB | exact Own.rd (Own.keep0 (by assumption) hB)) rfl (by omega)) rfl ?_
  refine ow_g (g_ldB sc5 rfl (by first | assumption | exact Own.rd (by assumption) | exact Rd.keep0 (by assumption) hB | exact Own.rd (Own.keep0 (by assumption) hB)) (by omega)) rfl ?_
  refine ow_g (g_as rfl) rfl ?_
  refine ow_nil ?_
  refine tw_seq ?_
  refine tw_seq ?_
  refine tw_region ?_
  refine ow_g (g_as rfl) rfl ?_
  refine ow_nil ?_
  refine tw_block ?_
  refine tw_loop (Γ := Int × Int) (fun ⟨i, m⟩ => [(0, v), (3, .int .u8 m), (4, .int .i64 i)]) (fun ⟨i, m⟩ W => 1 ≤ i ∧ i ≤ xs.length ∧ m = mxB xs (i - 1).toNat ∧ Keep [] w W) (fun ⟨i, m⟩ => (xs.length - i).toNat) ⟨1, gb xs 0⟩ ⟨rfl, rfl, rfl, trivial⟩ (⟨by decide, by omega, rfl, hB⟩) ?_
  rintro ⟨i, m⟩ w1 ⟨hi0, hi1, hall, hB⟩
  refine tw_keep [(0, v), (3, .int .u8 m), (4, .int .i64 i)] ⟨rfl, rfl, rfl, trivial⟩ ?_
  refine tw_seq ?_
  refine tw_seq ?_
  refine tw_region ?_
  refine ow_g (g_mv rfl) rfl ?_
  refine ow_g (g_mv rfl) rfl ?_
  refine ow_g (g_len Try.underlying22 rfl (by first | assumption | exact Own.rd (by assumption) | exact Rd.keep0 (by assumption) hB | exact Own.rd (Own.keep0 (by assumption) hB))) rfl ?_
  refine ow_g (g_lt rfl rfl) rfl ?_
  refine ow_nil ?_
  refine tw_if rfl (fun hc1 => ?_) (fun hc1 => ?_)
  · -- yes
    refine tw_skip ?_
    refine tw_seq ?_
    refine tw_block ?_
    refine tw_region ?_
    refine ow_g (g_mv rfl) rfl ?_
    refine ow_g (g_mv rfl) rfl ?_
    refine ow_g (g_mv rfl) rfl ?_
    refine ow_g (g_ix Try.underlying22 ty5 rfl (by first | assumption | exact Own.rd (by assumption) | exact Rd.keep0 (by assumption) hB | exact Own.rd (Own.keep0 (by assumption) hB)) rfl (by omega)) rfl ?_
    refine ow_g (g_ldB sc5 rfl (by first | assumption | exact Own.rd (by assumption) | exact Rd.keep0 (by assumption) hB | exact Own.rd (Own.keep0 (by assumption) hB)) (by omega)) rfl ?_
    refine ow_g (g_max rfl rfl) rfl ?_
    refine ow_g (g_as rfl) rfl ?_
    refine ow_nil ?_
    refine tw_b ?_
    refine tw_region ?_
    refine ow_g (g_mv rfl) rfl ?_
    refine ow_g (g_add rfl rfl (by omega)) rfl ?_
    refine ow_g (g_as rfl) rfl ?_
    refine ow_nil ?_
    refine tw_inv (Γ := Int × Int) ⟨i + 1, _⟩ ⟨rfl, rfl, rfl, trivial⟩ (by (try dsimp only); omega) (⟨by omega, by omega, mxB_step hi0 hall, hB⟩)
  · -- no
    refine tw_exit rfl ?_
    refine tw_seq ?_
    refine tw_region ?_
    refine ow_g (g_mv rfl) rfl ?_
    refine ow_g (g_as rfl) rfl ?_
    refine ow_nil ?_
    refine tw_ret1 hfin Try.results42 rfl ?_
    exact ⟨by rw [hall, show i - 1 = (xs.length : Int) - 1 by omega], hB⟩

set_option maxRecDepth 100000 in
set_option maxHeartbeats 1000000 in
theorem mul_any64 (x y : Int) (hx : In x 0 18446744073709551615) (hy : In y 0 18446744073709551615) (w : World) : Rets Try.prog 78 [.int .u64 x, .int .u64 y] w (fun v w' => v = .tuple #[.int .u64 (x * y / 18446744073709551616), .int .u64 (x * y % 18446744073709551616)] ∧ w = w') := by
  refine rets_of_tw Try.func78 rfl (by decide) Try.ntmps78 rfl (fun fin _ hfin => ?_)
  refine tw_seq ?_
  refine tw_region ?_
  refine ow_g (g_as rfl) rfl ?_
  refine ow_g (g_as rfl) rfl ?_
  refine ow_nil ?_
  refine tw_seq ?_
  refine tw_cond_false rfl ?_
  refine tw_skip ?_
  refine tw_seq ?_
  refine tw_region ?_
  refine ow_g (g_mv rfl) rfl ?_
  refine ow_g (g_mv rfl) rfl ?_
  refine ow_d (d_call (vs := [_, _]) rfl (mul64_any _ _ (In.wk hx rfl) (In.wk hy rfl) _)) rfl ?_
  rintro _ _ ⟨rfl, rfl⟩
  refine ow_g (g_mv rfl) rfl ?_
  refine ow_gx (e' := (x * y / 18446744073709551616)) (lo := 0) (hi := 18446744073709551614) (g_ext (vs := [_, _]) rfl rfl) (rfl) (In.wk (in_div (in_mul hx hy (by decide) (by decide)) (by decide)) rfl) rfl (fun z1 h1 r1 => ?_)
  refine ow_gx (e' := (x * y % 18446744073709551616)) (lo := 0) (hi := 18446744073709551615) (g_ext (vs := [_, _]) rfl rfl) (rfl) (In.wk (in_mod _ (by decide)) rfl) rfl (fun z2 h2 r2 => ?_)
  refine ow_g (g_as rfl) rfl ?_
  refine ow_g (g_as rfl) rfl ?_
  refine ow_nil ?_
  refine tw_seq ?_
  refine tw_region ?_
  refine ow_g (g_mv rfl) rfl ?_
  refine ow_g (g_mv rfl) rfl ?_
  refine ow_g (g_as rfl) rfl ?_
  refine ow_g (g_as rfl) rfl ?_
  refine ow_nil ?_
  refine tw_ret2 hfin Try.results78 rfl rfl ?_
  simp only [Eqn, In] at h1 r1 h2 r2
  exact ⟨by subst_vars; rfl, rfl⟩

theorem mul_1_32 (w : World) : Rets Try.prog 78 [.int .u64 1, .int .u64 32] w (fun v w' => v = .tuple #[.int .u64 0, .int .u64 32] ∧ w = w') := mul_any64 1 32 (by decide) (by decide) w
def repN (b : UInt8) (n : Nat) : List UInt8 := List.replicate n b ++ List.replicate (32 - n) 0
theorem repN_len (b : UInt8) (n : Nat) (h : n ≤ 32) : (repN b n).length = 32 := by unfold repN; simp; omega
theorem rep_step {n : Nat} {f : Fr} {w : World} {ty : TypeId} {x y : Operand} {lo nn : Nat} {q : Value} {b : UInt8} (hx : f.ev x = some (cut q nn 32 1)) (hy : f.ev y = some (cut q 0 nn 1)) (ho : Own w lo 5 1 q 32 (bv (repN b nn))) (h1 : 1 ≤ nn) (h2 : nn < 32) :
    Does Try.prog n f w (.call { callee := .builtin .copy, args := #[x, y], argTypes := #[22, 22] }) ty
      (fun r w' => r = .int .i64 ((min nn (32 - nn) : Nat) : Int) ∧ Own w' lo 5 1 q 32 (bv (repN b (nn + min nn (32 - nn)))) ∧ Keep (vblk q) w w' ∧ w'.heap.size = w.heap.size) := by
  have hr : RdB w q (repN b nn) := by unfold RdB; rw [repN_len _ _ (by omega)]; exact ho.rd
  have hc := hr.cutB (l := 0) (hi := nn) (by omega) (by rw [repN_len _ _ (by omega)]; omega)
  have e1 : ((repN b nn).drop 0).take (nn - 0) = List.replicate nn b := by unfold repN; simp
  rw [e1] at hc
  refine (d_cpAt Try.underlying22 ty5 hx ho (by omega) hy hc (bv_one _) (s := min nn (32 - nn)) (by rw [List.length_replicate]) (by omega)).mono ?_
  rintro r w' ⟨rfl, o, k, z⟩
  refine ⟨rfl, ?_, k, z⟩
  have e2 : (bv (repN b nn)).take nn ++ (bv (List.replicate nn b)).take (min nn (32 - nn)) ++ (bv (repN b nn)).drop (nn + min nn (32 - nn)) = bv (repN b (nn + min nn (32 - nn))) := by
    rw [bv_take, bv_take, bv_drop, ← bv_append, ← bv_append]
    congr 1
    unfold repN
    rw [List.take_left' (by simp), List.take_replicate, List.drop_append, List.length_replicate, List.drop_eq_nil_of_le (by simp), List.nil_append, List.drop_replicate, Nat.min_eq_left (show min nn (32 - nn) ≤ nn by omega), ← List.replicate_append_replicate, show nn + min nn (32 - nn) - nn = min nn (32 - nn) by omega, show 32 - nn - min nn (32 - nn) = 32 - (nn + min nn (32 - nn)) by omega]
  rw [e2] at o; exact o
set_option maxRecDepth 100000 in
set_option maxHeartbeats 1000000 in
theorem repeat_any (v : Value) (b : UInt8) (w : World) (hv : Rd w 1 v 1 (bv [b])) : Rets Try.prog 57 [v, .int .i64 32] w (fun r w' => Own w' w.heap.size 5 1 r 32 (bv (repN b 32)) ∧ Keep [] w w') := by
  have hB : Keep [] w w := Keep.refl _ _
  refine rets_of_tw Try.func57 rfl (by decide) Try.ntmps57 rfl (fun fin _ hfin => ?_)
  refine tw_seq ?_
  refine tw_region ?_
  refine ow_g (g_as rfl) rfl ?_
  refine ow_nil ?_
  refine tw_seq ?_
  refine tw_seq ?_
  refine tw_region ?_
  refine ow_g (g_mv rfl) rfl ?_
  refine ow_g (g_lt rfl rfl) rfl ?_
  refine ow_nil ?_
  refine tw_ifF rfl (by decide) ?_
  refine tw_skip ?_
  refine tw_seq ?_
  refine tw_region ?_
  refine ow_g (g_mv rfl) rfl ?_
  refine ow_g (g_len Try.underlying22 rfl (by first | assumption | exact Own.rd (by assumption) | exact Rd.keep0 (by assumption) hB | exact Own.rd (Own.keep0 (by assumption) hB))) rfl ?_
  refine ow_g (g_fold (j := 1) (g_cv (by rw [Try.underlying3]; rfl) Try.underlying53 rfl) (by decide)) rfl ?_
  refine ow_g (g_mv rfl) rfl ?_
  refine ow_g (g_fold (j := 32) (g_cv (by rw [Try.underlying3]; rfl) Try.underlying53 rfl) (by decide)) rfl ?_
  refine ow_d (d_call (vs := [_, _]) rfl (mul_1_32 _)) rfl ?_
  rintro _ _ ⟨rfl, rfl⟩
  refine ow_g (g_mv rfl) rfl ?_
  refine ow_g (g_ext (vs := [_, _]) rfl rfl) rfl ?_
  refine ow_g (g_ext (vs := [_, _]) rfl rfl) rfl ?_
  refine ow_g (g_as rfl) rfl ?_
  refine ow_g (g_as rfl) rfl ?_
  refine ow_nil ?_
  refine tw_seq ?_
  refine tw_seq ?_
  refine tw_region ?_
  refine ow_g (g_mv rfl) rfl ?_
  refine ow_g (g_gt rfl rfl) rfl ?_
  refine ow_g (g_mv rfl) rfl ?_
  refine ow_grp 23 false rfl (fun c1 hgc1 => ?_)
  refine ow_gg [(6, _)] (grd1 rfl rfl rfl hgc1) ⟨und0 rfl, trivial⟩ (fun hw1 => g_mv rfl) rfl ?_
  refine ow_gg [(24, _)] (grd1 rfl rfl rfl hgc1) ⟨und1 rfl, trivial⟩ (fun hw2 => g_gt rfl rfl) rfl ?_
  refine ow_g (g_por rfl rfl hgc1) rfl ?_
  refine ow_nil ?_
  refine tw_condF rfl (by decide) ?_
  refine tw_skip ?_
  refine tw_seq ?_
  refine tw_region ?_
  refine ow_g (g_mv rfl) rfl ?_
  refine ow_g (g_fold (j := 32) (g_cv (by rw [Try.underlying53]; rfl) Try.underlying3 rfl) (by decide)) rfl ?_
  refine ow_d (d_mk Try.underlying22 ty5 rfl rfl (by omega) (by constructor <;> omega)) rfl ?_
  rintro q w1 ⟨o1, _, _, k1, _⟩
  have o2 : Own w1 w.heap.size 5 1 q 32 (List.replicate 32 (.int .u8 0)) := o1.lo hB.size
  clear o1
  replace hv := hv.keep0 k1
  replace hB := hB.trans k1
  obtain ⟨g, c, cur, rfl, hg, _, hcap1, hcap2, _, _⟩ := o2.raw (by simp)
  refine ow_g (g_as rfl) rfl ?_
  refine ow_nil ?_
  refine tw_seq ?_
  refine tw_region ?_
  refine ow_g (g_mv rfl) rfl ?_
  refine ow_g (g_mv rfl) rfl ?_
  refine ow_d (d_cp Try.underlying22 ty5 rfl o2 rfl hv (bv_one _) rfl) rfl ?_
  rintro _ w2 ⟨rfl, o3, k2, z2⟩
  replace hB := hB.new k2 (fun x hx => .inl ((List.mem_singleton.1 hx) ▸ hg))
  clear hv
  refine ow_g (g_as rfl) rfl ?_
  refine ow_nil ?_
  refine tw_seq ?_
  refine tw_block ?_
  refine tw_loop (Γ := Nat) (fun i => [(7, .slice (some ⟨g, 0, none⟩) 32 c), (8, .int .i64 (i : Int))]) (fun i W => 1 ≤ i ∧ i ≤ 32 ∧ Own W w.heap.size 5 1 (.slice (some ⟨g, 0, none⟩) 32 c) 32 (bv (repN b i)) ∧ Keep [] w W) (fun i => 32 - i) 1 ⟨rfl, rfl, trivial⟩ (⟨by decide, by decide, o3, hB⟩) ?_
  rintro i w2 ⟨hi0, hi1, o4, hB⟩
  refine tw_keep [(7, .slice (some ⟨g, 0, none⟩) 32 c), (8, .int .i64 (i : Int))] ⟨rfl, rfl, trivial⟩ ?_
  refine tw_seq ?_
  refine tw_seq ?_
  refine tw_region ?_
  refine ow_g (g_mv rfl) rfl ?_
  refine ow_g (g_mv rfl) rfl ?_
  refine ow_g (g_len Try.underlying22 rfl (by first | assumption | exact Own.rd (by assumption) | exact Rd.keep0 (by assumption) hB | exact Own.rd (Own.keep0 (by assumption) hB))) rfl ?_
  refine ow_g (g_lt rfl rfl) rfl ?_
  refine ow_nil ?_
  refine tw_if rfl (fun hc1 => ?_) (fun hc1 => ?_)
  · -- yes
    refine tw_skip ?_
    refine tw_block ?_
    refine tw_planA 8 [0, 1, 2, 3, 4, 5, 6, 7] [7] [g] [] mixed [(7, _), (8, _)] ⟨rfl, rfl, trivial⟩ (by decide +kernel) (by decide) (by decide) ?_ (fun x hx => (List.mem_singleton.1 hx) ▸ (o4.blk g (by simp [vblk])).2) rfl (fun w5 k5 => ?_)
    · intro q hq; cases hq
    replace o4 := o4.keep0 k5
    replace hB := hB.trans k5
    refine pa_g [(8, _)] rfl rfl ⟨rfl, trivial⟩ rfl (fun W' kk => g_mv rfl) ?_
    refine pa_g [(7, _)] rfl rfl ⟨rfl, trivial⟩ rfl (fun W' kk => g_mv rfl) ?_
    refine pa_g [(8, _)] rfl rfl ⟨rfl, trivial⟩ rfl (fun W' kk => g_mv rfl) ?_
    refine pa_g [(39, _), (40, _)] rfl rfl ⟨rfl, rfl, trivial⟩ rfl (fun W' kk => g_slv Try.underlying22 ty5 rfl hcap2 hcap1 (.inr ⟨_, _, rfl, rfl⟩) (.inl ⟨rfl, rfl⟩) (by omega)) ?_
    refine pa_g [(7, _)] rfl rfl ⟨rfl, trivial⟩ rfl (fun W' kk => g_mv rfl) ?_
    refine pa_g [(8, _)] rfl rfl ⟨rfl, trivial⟩ rfl (fun W' kk => g_mv rfl) ?_
    refine pa_g [(42, _), (43, _)] rfl rfl ⟨rfl, rfl, trivial⟩ rfl (fun W' kk => g_slv Try.underlying22 ty5 rfl hcap2 hcap1 (.inl ⟨rfl, rfl⟩) (.inr ⟨_, _, rfl, rfl⟩) (by omega)) ?_
    refine pa_d [(41, _), (44, _)] rfl rfl ⟨rfl, rfl, trivial⟩ rfl (fun w6 k6 => ?_)
    refine (rep_step rfl rfl (o4.keep0 k6) hi0 (by omega)).mono ?_
    rintro _ w6' ⟨rfl, o5, k6', z6⟩
    replace hB := (hB.trans k6).new k6' (fun x hx => .inl ((List.mem_singleton.1 hx) ▸ hg))
    refine ⟨k6', (fun x hx => by have hx : x ∈ ([] : List Nat) := hx; cases hx), ?_⟩
    clear o4
    refine pa_nil (fun w7 k7 => ?_)
    replace o5 := o5.keep0 k7
    replace hB := hB.trans k7
    refine fina_nil ?_
    refine ow_g (g_add rfl rfl (by omega)) rfl ?_
    refine ow_g (g_as rfl) rfl ?_
    refine ow_nil ?_
    refine tw_b ?_
    refine tw_inv (Γ := Nat) (i + min i (32 - i)) ⟨rfl, rfl, trivial⟩ (by (try dsimp only); omega) (⟨by omega, by omega, o5, hB⟩)
  · -- no
    refine tw_exit rfl ?_
    refine tw_seq ?_
    refine tw_region ?_
    refine ow_g (g_mv rfl) rfl ?_
    refine ow_g (g_as rfl) rfl ?_
    refine ow_nil ?_
    refine tw_ret1 hfin Try.results57 rfl ?_
    obtain rfl : i = 32 := by omega
    exact ⟨o4, hB⟩

end Go.Proofs.Ytkngeapegpehpaa.W
