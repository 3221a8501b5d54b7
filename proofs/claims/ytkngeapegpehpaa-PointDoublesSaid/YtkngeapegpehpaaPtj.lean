import Derived.Test.YtkngeapegpehpaaPti
namespace Go.Proofs.Ytkngeapegpehpaa.W
open Go Go.Eng Go.Byt
set_option linter.unusedVariables false
set_option linter.unusedSimpArgs false
open Go.Fld Go.Ed
set_option maxRecDepth 100000 in
set_option maxHeartbeats 1000000 in
theorem Ptimes_no (p : Nat → Int) (v : Value) (xs : List UInt8) (w : World) (hv : RdB w v xs) (hx : xs.length ≠ 32) : Rets Try.prog 20 [.agg (iv .u64 20 p).toArray, v] w (fun r w' => r = .tuple #[.agg (iv .u64 20 (fun _ => 0)).toArray, .int .i64 1] ∧ Keep [] w w') := by
  have hB : Keep [] w w := Keep.refl _ _
  refine rets_of_tw Try.func20 rfl (by decide) Try.ntmps20 rfl (fun fin _ hfin => ?_)
  refine tw_seq ?_
  refine tw_region ?_
  refine ow_d (d_box (cs := [.int .u64 (p 0), .int .u64 (p 1), .int .u64 (p 2), .int .u64 (p 3), .int .u64 (p 4), .int .u64 (p 5), .int .u64 (p 6), .int .u64 (p 7), .int .u64 (p 8), .int .u64 (p 9), .int .u64 (p 10), .int .u64 (p 11), .int .u64 (p 12), .int .u64 (p 13), .int .u64 (p 14), .int .u64 (p 15), .int .u64 (p 16), .int .u64 (p 17), .int .u64 (p 18), .int .u64 (p 19)]) rfl rfl) rfl ?_
  rintro _ w1 ⟨b1, rfl, eb1, hb1, k1, z1⟩
  have ge_b1 : w.heap.size ≤ b1 := by have := hB.size; omega
  replace hB := hB.trans k1
  clear eb1 z1
  refine ow_d (d_alloc ty30) rfl ?_
  rintro _ w2 ⟨b2, rfl, eb2, hb2, k2, z2⟩
  have ge_b2 : w.heap.size ≤ b2 := by have := hB.size; omega
  have ne_b1_b2 : b1 ≠ b2 := by have := hb1.lt; omega
  replace hb1 := hb1.keep0 k2
  replace hB := hB.trans k2
  clear eb2 z2
  refine ow_g (g_as rfl) rfl ?_
  refine ow_nil ?_
  refine tw_scope 64 ?_
  refine tw_seq ?_
  refine tw_seq ?_
  refine tw_region ?_
  refine ow_g (g_mv rfl) rfl ?_
  refine ow_g (g_len Try.underlying22 rfl (by first | assumption | exact Own.rd (by assumption) | exact Rd.keep0 (by assumption) hB | exact Own.rd (Own.keep0 (by assumption) hB))) rfl ?_
  refine ow_g (g_ne rfl rfl) rfl ?_
  refine ow_nil ?_
  refine tw_ifT rfl (by omega) ?_
  refine tw_seq ?_
  refine tw_region ?_
  refine ow_g (g_bld (idx := []) (xs := []) (vs := []) (css := []) (out := [_, _, _, _, _, _, _, _, _, _, _, _, _, _, _, _, _, _, _, _]) pl30 ty30 rfl rfl trivial rfl rfl) rfl ?_
  refine ow_d0 (d_sta ty30 rfl rfl rfl (by simp only [List.forall_mem_cons]; refine ⟨rfl, rfl, rfl, rfl, rfl, rfl, rfl, rfl, rfl, rfl, rfl, rfl, rfl, rfl, rfl, rfl, rfl, rfl, rfl, rfl, fun v hv => by cases hv⟩) hb2 rfl) ?_
  rintro _ w3 ⟨hb3, k3, z3⟩
  replace hb1 := hb1.keep k3 (fun hm => absurd (List.mem_singleton.1 hm) ne_b1_b2)
  replace hB := hB.new k3 (fun x hx => .inl ((List.mem_singleton.1 hx) ▸ ge_b2))
  clear z3
  replace hb3 : Bk w3 b2 _ [.int .u64 0, .int .u64 0, .int .u64 0, .int .u64 0, .int .u64 0, .int .u64 0, .int .u64 0, .int .u64 0, .int .u64 0, .int .u64 0, .int .u64 0, .int .u64 0, .int .u64 0, .int .u64 0, .int .u64 0, .int .u64 0, .int .u64 0, .int .u64 0, .int .u64 0, .int .u64 0] := hb3
  refine ow_g (g_as rfl) rfl ?_
  refine ow_nil ?_
  refine tw_retct hfin Try.results20 rfl (run_loadAgg ag30 ty30 (by assumption) rfl) rfl ?_
  exact ⟨rfl, hB⟩

set_option maxRecDepth 100000 in
set_option maxHeartbeats 1000000 in
theorem Ptimes_32 (p : Nat → Int) (a : Pt) (v : Value) (xs : List UInt8) (hp : PtR p a) (ha : OnP a) (w : World) (hv : RdB w v xs) (hx : xs.length = 32) : Rets Try.prog 20 [.agg (iv .u64 20 p).toArray, v] w (fun r w' => ∃ q, r = .tuple #[.agg (iv .u64 20 q).toArray, .int .i64 0] ∧ PtR q (pmul (leI xs).toNat a) ∧ Keep [] w w') := by
  have hB : Keep [] w w := Keep.refl _ _
  refine rets_of_tw Try.func20 rfl (by decide) Try.ntmps20 rfl (fun fin _ hfin => ?_)
  refine tw_seq ?_
  refine tw_region ?_
  refine ow_d (d_box (cs := [.int .u64 (p 0), .int .u64 (p 1), .int .u64 (p 2), .int .u64 (p 3), .int .u64 (p 4), .int .u64 (p 5), .int .u64 (p 6), .int .u64 (p 7), .int .u64 (p 8), .int .u64 (p 9), .int .u64 (p 10), .int .u64 (p 11), .int .u64 (p 12), .int .u64 (p 13), .int .u64 (p 14), .int .u64 (p 15), .int .u64 (p 16), .int .u64 (p 17), .int .u64 (p 18), .int .u64 (p 19)]) rfl rfl) rfl ?_
  rintro _ w1 ⟨b1, rfl, eb1, hb1, k1, z1⟩
  have ge_b1 : w.heap.size ≤ b1 := by have := hB.size; omega
  replace hB := hB.trans k1
  clear eb1 z1
  refine ow_d (d_alloc ty30) rfl ?_
  rintro _ w2 ⟨b2, rfl, eb2, hb2, k2, z2⟩
  have ge_b2 : w.heap.size ≤ b2 := by have := hB.size; omega
  have ne_b1_b2 : b1 ≠ b2 := by have := hb1.lt; omega
  replace hb1 := hb1.keep0 k2
  replace hB := hB.trans k2
  clear eb2 z2
  refine ow_g (g_as rfl) rfl ?_
  refine ow_nil ?_
  refine tw_scope 64 ?_
  refine tw_seq ?_
  refine tw_seq ?_
  refine tw_region ?_
  refine ow_g (g_mv rfl) rfl ?_
  refine ow_g (g_len Try.underlying22 rfl (by first | assumption | exact Own.rd (by assumption) | exact Rd.keep0 (by assumption) hB | exact Own.rd (Own.keep0 (by assumption) hB))) rfl ?_
  refine ow_g (g_ne rfl rfl) rfl ?_
  refine ow_nil ?_
  refine tw_ifF rfl (by omega) ?_
  refine tw_skip ?_
  refine tw_seq ?_
  refine tw_region ?_
  refine ow_d (d_call (vs := []) rfl (pd_any _)) rfl ?_
  rintro _ w3 ⟨hh1, rfl, E1, k3⟩
  replace hb1 := hb1.keep0 k3
  replace hb2 := hb2.keep0 k3
  replace hB := hB.trans k3
  refine ow_d (d_alloc ty28) rfl ?_
  rintro _ w4 ⟨b3, rfl, eb3, hb3, k4, z3⟩
  have ge_b3 : w.heap.size ≤ b3 := by have := hB.size; omega
  have ne_b1_b3 : b1 ≠ b3 := by have := hb1.lt; omega
  have ne_b2_b3 : b2 ≠ b3 := by have := hb2.lt; omega
  replace hb1 := hb1.keep0 k4
  replace hb2 := hb2.keep0 k4
  replace hB := hB.trans k4
  clear eb3 z3
  refine ow_d0 (d_sta ty28 rfl rfl rfl ivF_one hb3 rfl) ?_
  rintro _ w5 ⟨hb4, k5, z4⟩
  replace hb1 := hb1.keep k5 (fun hm => absurd (List.mem_singleton.1 hm) ne_b1_b3)
  replace hb2 := hb2.keep k5 (fun hm => absurd (List.mem_singleton.1 hm) ne_b2_b3)
  replace hB := hB.new k5 (fun x hx => .inl ((List.mem_singleton.1 hx) ▸ ge_b3))
  clear z4
  replace hb4 : Bk w5 b3 _ [.int .u64 (hh1 0), .int .u64 (hh1 1), .int .u64 (hh1 2), .int .u64 (hh1 3), .int .u64 (hh1 4)] := hb4
  refine ow_nil ?_
  refine tw_seq ?_
  refine tw_region ?_
  refine ow_d (d_alloc ty82) rfl ?_
  rintro _ w6 ⟨b4, rfl, eb4, hb5, k6, z5⟩
  have ge_b4 : w.heap.size ≤ b4 := by have := hB.size; omega
  have ne_b1_b4 : b1 ≠ b4 := by have := hb1.lt; omega
  have ne_b2_b4 : b2 ≠ b4 := by have := hb2.lt; omega
  have ne_b3_b4 : b3 ≠ b4 := by have := hb4.lt; omega
  replace hb1 := hb1.keep0 k6
  replace hb2 := hb2.keep0 k6
  replace hb4 := hb4.keep0 k6
  replace hB := hB.trans k6
  clear eb4 z5
  replace hb5 : Bk w6 b4 82 (iv .u64 320 (fun _ => 0)) := by rw [iv, ivF_rep]; exact hb5
  refine ow_nil ?_
  refine tw_seq ?_
  refine tw_region ?_
  refine ow_d (d_call (vs := []) rfl (PzeroR _)) rfl ?_
  rintro _ w7 ⟨hh2, rfl, E2, k7⟩
  replace hb1 := hb1.keep0 k7
  replace hb2 := hb2.keep0 k7
  replace hb4 := hb4.keep0 k7
  replace hb5 := hb5.keep0 k7
  replace hB := hB.trans k7
  refine ow_g (g_ixa Try.underlying82 ty30 rfl rfl (by decide)) rfl ?_
  refine ow_d0 (d_stiv (g := hh2) ty30 rfl rfl hb5 (by first | omega | (unfold In at *; omega))) ?_
  rintro _ w8 ⟨hb6, k8, z6⟩
  replace hb1 := hb1.keep k8 (fun hm => absurd (List.mem_singleton.1 hm) ne_b1_b4)
  replace hb2 := hb2.keep k8 (fun hm => absurd (List.mem_singleton.1 hm) ne_b2_b4)
  replace hb4 := hb4.keep k8 (fun hm => absurd (List.mem_singleton.1 hm) ne_b3_b4)
  replace hB := hB.new k8 (fun x hx => .inl ((List.mem_singleton.1 hx) ▸ ge_b4))
  clear z6
  replace hb6 : Bk w8 b4 _ (iv .u64 320 (updR (fun _ => 0) (0 + 0) 20 hh2)) := hb6
  refine ow_nil ?_
  refine tw_seq ?_
  refine tw_seq ?_
  refine tw_region ?_
  refine ow_g (g_as rfl) rfl ?_
  refine ow_nil ?_
  refine tw_block ?_
  refine tw_loop (Γ := Int × (Nat → Int)) (fun ⟨i, U⟩ => [(1, v), (2, .pointer (some ⟨b1, 0, none⟩)), (4, .pointer (some ⟨b2, 0, none⟩)), (6, .pointer (some ⟨b3, 0, none⟩)), (7, .pointer (some ⟨b4, 0, none⟩)), (8, .int .i64 i)]) (fun ⟨i, U⟩ W => 1 ≤ i ∧ i ≤ 16 ∧ (∀ j, j < i.toNat → PtR (atN U (0 + j * 20)) (pmul j a)) ∧ Bk W b1 30 [.int .u64 (p 0), .int .u64 (p 1), .int .u64 (p 2), .int .u64 (p 3), .int .u64 (p 4), .int .u64 (p 5), .int .u64 (p 6), .int .u64 (p 7), .int .u64 (p 8), .int .u64 (p 9), .int .u64 (p 10), .int .u64 (p 11), .int .u64 (p 12), .int .u64 (p 13), .int .u64 (p 14), .int .u64 (p 15), .int .u64 (p 16), .int .u64 (p 17), .int .u64 (p 18), .int .u64 (p 19)] ∧ Bk W b2 30 [.int .u64 0, .int .u64 0, .int .u64 0, .int .u64 0, .int .u64 0, .int .u64 0, .int .u64 0, .int .u64 0, .int .u64 0, .int .u64 0, .int .u64 0, .int .u64 0, .int .u64 0, .int .u64 0, .int .u64 0, .int .u64 0, .int .u64 0, .int .u64 0, .int .u64 0, .int .u64 0] ∧ Bk W b3 28 [.int .u64 (hh1 0), .int .u64 (hh1 1), .int .u64 (hh1 2), .int .u64 (hh1 3), .int .u64 (hh1 4)] ∧ Bk W b4 82 (iv .u64 320 U) ∧ Keep [] w W) (fun ⟨i, U⟩ => (16 - i).toNat) ⟨1, (updR (fun _ => 0) (0 + 0) 20 hh2)⟩ ⟨rfl, rfl, rfl, rfl, rfl, rfl, trivial⟩ (⟨by decide, by decide, win_start E2, hb1, hb2, hb4, hb6, hB⟩) ?_
  rintro ⟨i, U⟩ w9 ⟨hi0, hi1, hwin, hbx2, hbx4, hbx6, hbx7, hB⟩
  refine tw_keep [(1, v), (2, .pointer (some ⟨b1, 0, none⟩)), (4, .pointer (some ⟨b2, 0, none⟩)), (6, .pointer (some ⟨b3, 0, none⟩)), (7, .pointer (some ⟨b4, 0, none⟩)), (8, .int .i64 i)] ⟨rfl, rfl, rfl, rfl, rfl, rfl, trivial⟩ ?_
  refine tw_seq ?_
  refine tw_seq ?_
  refine tw_region ?_
  refine ow_g (g_mv rfl) rfl ?_
  refine ow_g (g_lt rfl rfl) rfl ?_
  refine ow_nil ?_
  refine tw_if rfl (fun hc1 => ?_) (fun hc1 => ?_)
  · -- yes
    refine tw_skip ?_
    refine tw_seq ?_
    refine tw_block ?_
    refine tw_plan 9 [0, 1, 2, 3, 4, 5, 7, 6, 8] [6, 8] [] mixed [(8, _), (7, _), (2, _), (6, _), (1, _), (4, _), (18, _), (19, _)] ⟨rfl, rfl, rfl, rfl, rfl, rfl, rfl, rfl, trivial⟩ (by decide +kernel) rfl (fun w10 k9 => ?_)
    replace hbx2 := hbx2.keep0 k9
    replace hbx4 := hbx4.keep0 k9
    replace hbx6 := hbx6.keep0 k9
    replace hbx7 := hbx7.keep0 k9
    replace hB := hB.trans k9
    refine pw_g [(8, _)] rfl rfl ⟨rfl, trivial⟩ rfl (fun W' kk => g_mv rfl) ?_
    refine pw_g [(8, _)] rfl rfl ⟨rfl, trivial⟩ rfl (fun W' kk => g_mv rfl) ?_
    refine pw_g [(23, _)] rfl rfl ⟨rfl, trivial⟩ rfl (fun W' kk => g_sub rfl rfl (by omega)) ?_
    refine pw_g [(7, _), (24, _)] rfl rfl ⟨rfl, rfl, trivial⟩ rfl (fun W' kk => g_ixa Try.underlying82 ty30 rfl rfl (by constructor <;> omega)) ?_
    refine pw_g [(25, _)] rfl rfl ⟨rfl, trivial⟩ rfl (fun W' kk => g_ldiv ag30 ty30 rfl (Bk.keep0 hbx7 kk) (by first | omega | (unfold In at *; omega))) ?_
    refine pw_g [(2, _)] rfl rfl ⟨rfl, trivial⟩ rfl (fun W' kk => g_ldab (cs' := [_, _, _, _, _, _, _, _, _, _, _, _, _, _, _, _, _, _, _, _]) ag30 ty30 rfl (Bk.keep0 hbx2 kk) rfl rfl) ?_
    refine pw_g [(6, _)] rfl rfl ⟨rfl, trivial⟩ rfl (fun W' kk => g_ldab (cs' := [_, _, _, _, _]) ag28 ty28 rfl (Bk.keep0 hbx6 kk) rfl rfl) ?_
    refine pw_d [(27, _)] rfl rfl ⟨rfl, trivial⟩ rfl (d_call (vs := [_]) rfl (fullR hp _)) ?_
    rintro _ w11 ⟨hh3, rfl, E3, k10⟩
    refine ⟨k10, ?_⟩
    replace hbx2 := hbx2.keep0 k10
    replace hbx4 := hbx4.keep0 k10
    replace hbx6 := hbx6.keep0 k10
    replace hbx7 := hbx7.keep0 k10
    replace hB := hB.trans k10
    refine pw_d [(26, _), (28, _), (29, _)] rfl rfl ⟨rfl, rfl, rfl, trivial⟩ rfl (d_call (vs := [_, _, _]) rfl (plusR (hwin ((i - 1)).toNat (by omega)) E3 (on_mul ha _) ha E1 _)) ?_
    rintro _ w12 ⟨hh4, rfl, E4, k11⟩
    refine ⟨k11, ?_⟩
    replace hbx2 := hbx2.keep0 k11
    replace hbx4 := hbx4.keep0 k11
    replace hbx6 := hbx6.keep0 k11
    replace hbx7 := hbx7.keep0 k11
    replace hB := hB.trans k11
    refine pw_nil ?_
    refine ow_g (g_ixa Try.underlying82 ty30 rfl rfl (by constructor <;> omega)) rfl ?_
    refine ow_d0 (d_stiv (g := hh4) ty30 rfl rfl hbx7 (by first | omega | (unfold In at *; omega))) ?_
    rintro _ w13 ⟨hb7, k12, z7⟩
    replace hbx2 := hbx2.keep k12 (fun hm => absurd (List.mem_singleton.1 hm) ne_b1_b4)
    replace hbx4 := hbx4.keep k12 (fun hm => absurd (List.mem_singleton.1 hm) ne_b2_b4)
    replace hbx6 := hbx6.keep k12 (fun hm => absurd (List.mem_singleton.1 hm) ne_b3_b4)
    replace hB := hB.new k12 (fun x hx => .inl ((List.mem_singleton.1 hx) ▸ ge_b4))
    clear z7
    replace hb7 : Bk w13 b4 _ (iv .u64 320 (updR U (0 + (i).toNat * 20) 20 hh4)) := hb7
    refine ow_nil ?_
    refine tw_b ?_
    refine tw_region ?_
    refine ow_g (g_mv rfl) rfl ?_
    refine ow_g (g_add rfl rfl (by omega)) rfl ?_
    refine ow_g (g_as rfl) rfl ?_
    refine ow_nil ?_
    refine tw_inv (Γ := Int × (Nat → Int)) ⟨i + 1, _⟩ ⟨rfl, rfl, rfl, rfl, rfl, rfl, trivial⟩ (by (try dsimp only); omega) (⟨by omega, by omega, win_step hi0 hwin E4, hbx2, hbx4, hbx6, hb7, hB⟩)
  · -- no
    refine tw_exit rfl ?_
    refine tw_seq ?_
    refine tw_region ?_
    refine ow_d (d_call (vs := []) rfl (PzeroR _)) rfl ?_
    rintro _ w14 ⟨hh5, rfl, E5, k13⟩
    replace hbx2 := hbx2.keep0 k13
    replace hbx4 := hbx4.keep0 k13
    replace hbx6 := hbx6.keep0 k13
    replace hbx7 := hbx7.keep0 k13
    replace hB := hB.trans k13
    refine ow_d (d_alloc ty30) rfl ?_
    rintro _ w15 ⟨b5, rfl, eb5, hb8, k14, z8⟩
    have ge_b5 : w.heap.size ≤ b5 := by have := hB.size; omega
    have ne_b1_b5 : b1 ≠ b5 := by have := hbx2.lt; omega
    have ne_b2_b5 : b2 ≠ b5 := by have := hbx4.lt; omega
    have ne_b3_b5 : b3 ≠ b5 := by have := hbx6.lt; omega
    have ne_b4_b5 : b4 ≠ b5 := by have := hbx7.lt; omega
    replace hbx2 := hbx2.keep0 k14
    replace hbx4 := hbx4.keep0 k14
    replace hbx6 := hbx6.keep0 k14
    replace hbx7 := hbx7.keep0 k14
    replace hB := hB.trans k14
    clear eb5 z8
    refine ow_d0 (d_sta ty30 rfl rfl rfl ivF_one hb8 rfl) ?_
    rintro _ w16 ⟨hb9, k15, z9⟩
    replace hbx2 := hbx2.keep k15 (fun hm => absurd (List.mem_singleton.1 hm) ne_b1_b5)
    replace hbx4 := hbx4.keep k15 (fun hm => absurd (List.mem_singleton.1 hm) ne_b2_b5)
    replace hbx6 := hbx6.keep k15 (fun hm => absurd (List.mem_singleton.1 hm) ne_b3_b5)
    replace hbx7 := hbx7.keep k15 (fun hm => absurd (List.mem_singleton.1 hm) ne_b4_b5)
    replace hB := hB.new k15 (fun x hx => .inl ((List.mem_singleton.1 hx) ▸ ge_b5))
    clear z9
    replace hb9 : Bk w16 b5 _ [.int .u64 (hh5 0), .int .u64 (hh5 1), .int .u64 (hh5 2), .int .u64 (hh5 3), .int .u64 (hh5 4), .int .u64 (hh5 5), .int .u64 (hh5 6), .int .u64 (hh5 7), .int .u64 (hh5 8), .int .u64 (hh5 9), .int .u64 (hh5 10), .int .u64 (hh5 11), .int .u64 (hh5 12), .int .u64 (hh5 13), .int .u64 (hh5 14), .int .u64 (hh5 15), .int .u64 (hh5 16), .int .u64 (hh5 17), .int .u64 (hh5 18), .int .u64 (hh5 19)] := hb9
    refine ow_nil ?_
    refine tw_seq ?_
    refine tw_region ?_
    refine ow_g (g_as rfl) rfl ?_
    refine ow_nil ?_
    refine tw_seq ?_
    refine tw_label ?_
    refine tw_again (Γ := Int × (Nat → Int)) (fun ⟨j, o⟩ => [(1, v), (4, .pointer (some ⟨b2, 0, none⟩)), (6, .pointer (some ⟨b3, 0, none⟩)), (7, .pointer (some ⟨b4, 0, none⟩)), (9, .pointer (some ⟨b5, 0, none⟩)), (10, .int .i64 j)]) (fun ⟨j, o⟩ W => 0 ≤ j ∧ j ≤ 63 ∧ PtR o (pmul (topN xs (j + 1) * 16) a) ∧ Bk W b2 30 [.int .u64 0, .int .u64 0, .int .u64 0, .int .u64 0, .int .u64 0, .int .u64 0, .int .u64 0, .int .u64 0, .int .u64 0, .int .u64 0, .int .u64 0, .int .u64 0, .int .u64 0, .int .u64 0, .int .u64 0, .int .u64 0, .int .u64 0, .int .u64 0, .int .u64 0, .int .u64 0] ∧ Bk W b3 28 [.int .u64 (hh1 0), .int .u64 (hh1 1), .int .u64 (hh1 2), .int .u64 (hh1 3), .int .u64 (hh1 4)] ∧ Bk W b4 82 (iv .u64 320 U) ∧ Bk W b5 30 [.int .u64 (o 0), .int .u64 (o 1), .int .u64 (o 2), .int .u64 (o 3), .int .u64 (o 4), .int .u64 (o 5), .int .u64 (o 6), .int .u64 (o 7), .int .u64 (o 8), .int .u64 (o 9), .int .u64 (o 10), .int .u64 (o 11), .int .u64 (o 12), .int .u64 (o 13), .int .u64 (o 14), .int .u64 (o 15), .int .u64 (o 16), .int .u64 (o 17), .int .u64 (o 18), .int .u64 (o 19)] ∧ Keep [] w W) (fun ⟨j, o⟩ => (j + 1).toNat) ⟨63, hh5⟩ ⟨rfl, rfl, rfl, rfl, rfl, rfl, trivial⟩ (⟨by decide, by decide, (by show PtR _ (pmul (topN xs 64 * 16) a); rw [topN_all hx]; exact E5), hbx4, hbx6, hbx7, hb9, hB⟩) (by show (63 + 1 : Int).toNat ≤ 64; decide) (fun γ W h => by have := h.1; show 0 < (γ.1 + 1).toNat; omega) ?_
    rintro mm ⟨j, o⟩ w17 ⟨hj0, hj1, hO, hbx4, hbx6, hbx7, hbx9, hB⟩ hmu again
    refine tw_keep [(1, v), (4, .pointer (some ⟨b2, 0, none⟩)), (6, .pointer (some ⟨b3, 0, none⟩)), (7, .pointer (some ⟨b4, 0, none⟩)), (9, .pointer (some ⟨b5, 0, none⟩)), (10, .int .i64 j)] ⟨rfl, rfl, rfl, rfl, rfl, rfl, trivial⟩ ?_
    refine tw_seq ?_
    refine tw_plan 15 [0, 1, 2, 3, 4, 5, 6, 7, 8, 9, 10, 11, 12, 13, 14] [14] [] mixed [(9, _), (1, _), (10, _), (7, _), (6, _), (4, _)] ⟨rfl, rfl, rfl, rfl, rfl, rfl, trivial⟩ (by decide +kernel) rfl (fun w18 k16 => ?_)
    replace hbx4 := hbx4.keep0 k16
    replace hbx6 := hbx6.keep0 k16
    replace hbx7 := hbx7.keep0 k16
    replace hbx9 := hbx9.keep0 k16
    replace hB := hB.trans k16
    refine pw_g [(9, _)] rfl rfl ⟨rfl, trivial⟩ rfl (fun W' kk => g_ldab (cs' := [_, _, _, _, _, _, _, _, _, _, _, _, _, _, _, _, _, _, _, _]) ag30 ty30 rfl (Bk.keep0 hbx9 kk) rfl rfl) ?_
    refine pw_g [(1, _)] rfl rfl ⟨rfl, trivial⟩ rfl (fun W' kk => g_mv rfl) ?_
    refine pw_g [(10, _)] rfl rfl ⟨rfl, trivial⟩ rfl (fun W' kk => g_mv rfl) ?_
    refine pw_g [(35, _)] rfl rfl ⟨rfl, trivial⟩ rfl (fun W' kk => g_quo rfl rfl (by omega)) ?_
    refine pw_g [(34, _), (36, _)] rfl rfl ⟨rfl, rfl, trivial⟩ rfl (fun W' kk => g_ix Try.underlying22 ty5 rfl (by first | exact Rd.keep0 (by assumption) kk | exact Rd.keep0 (Own.rd (by assumption)) kk | exact Rd.keep0 (Rd.keep0 (by assumption) hB) kk | exact Rd.keep0 (Own.rd (Own.keep0 (by assumption) hB)) kk) rfl (by omega)) ?_
    refine pw_g [(37, _)] rfl rfl ⟨rfl, trivial⟩ rfl (fun W' kk => g_ldB sc5 rfl (by first | exact Rd.keep0 (by assumption) kk | exact Rd.keep0 (Own.rd (by assumption)) kk | exact Rd.keep0 (Rd.keep0 (by assumption) hB) kk | exact Rd.keep0 (Own.rd (Own.keep0 (by assumption) hB)) kk) (by omega)) ?_
    refine pw_g [(10, _)] rfl rfl ⟨rfl, trivial⟩ rfl (fun W' kk => g_mv rfl) ?_
    refine pw_g [(39, _)] rfl rfl ⟨rfl, trivial⟩ rfl (fun W' kk => g_rem rfl rfl (by omega)) ?_
    refine pw_g [(40, _)] rfl rfl ⟨rfl, trivial⟩ rfl (fun W' kk => g_mul rfl rfl (by omega)) ?_
    refine pw_g [(38, _), (41, _)] rfl rfl ⟨rfl, rfl, trivial⟩ rfl (fun W' kk => g_shr rfl rfl (by constructor <;> (try simp only [IntKind.bits]) <;> omega)) ?_
    refine pw_gx (e' := nib xs j) (lo := 0) (hi := 15) [(42, _)] rfl rfl ⟨rfl, trivial⟩ rfl (fun W' kk => g_and rfl rfl) (nib_eq hx hj0 hj1) (nib_in xs j) (fun z10 h1 r1 => ?_)
    refine pw_g [(7, _), (43, _)] rfl rfl ⟨rfl, rfl, trivial⟩ rfl (fun W' kk => g_ixa Try.underlying82 ty30 rfl rfl (by have := r1; unfold In at this; omega)) ?_
    refine pw_g [(44, _)] rfl rfl ⟨rfl, trivial⟩ rfl (fun W' kk => g_ldiv ag30 ty30 rfl (Bk.keep0 hbx7 kk) (by have := r1; unfold In at this; omega)) ?_
    refine pw_g [(6, _)] rfl rfl ⟨rfl, trivial⟩ rfl (fun W' kk => g_ldab (cs' := [_, _, _, _, _]) ag28 ty28 rfl (Bk.keep0 hbx6 kk) rfl rfl) ?_
    refine pw_d [(33, _), (45, _), (46, _)] rfl rfl ⟨rfl, rfl, rfl, trivial⟩ rfl (d_call (vs := [_, _, _]) rfl (plusR hO (hwin (z10).toNat (by have := r1; unfold In at this; omega)) (on_mul ha _) (on_mul ha _) E1 _)) ?_
    rintro _ w19 ⟨hh6, rfl, E6, k17⟩
    refine ⟨k17, ?_⟩
    replace hbx4 := hbx4.keep0 k17
    replace hbx6 := hbx6.keep0 k17
    replace hbx7 := hbx7.keep0 k17
    replace hbx9 := hbx9.keep0 k17
    replace hB := hB.trans k17
    replace E6 : PtR hh6 (pmul (topN xs j) a) := by rw [← pmul_dig ha hj0, ← h1]; exact E6
    refine pw_nil ?_
    refine ow_d0 (d_sta ty30 rfl rfl rfl ivF_one hbx9 rfl) ?_
    rintro _ w20 ⟨hb10, k18, z11⟩
    replace hbx4 := hbx4.keep k18 (fun hm => absurd (List.mem_singleton.1 hm) ne_b2_b5)
    replace hbx6 := hbx6.keep k18 (fun hm => absurd (List.mem_singleton.1 hm) ne_b3_b5)
    replace hbx7 := hbx7.keep k18 (fun hm => absurd (List.mem_singleton.1 hm) ne_b4_b5)
    replace hB := hB.new k18 (fun x hx => .inl ((List.mem_singleton.1 hx) ▸ ge_b5))
    clear z11
    replace hb10 : Bk w20 b5 _ [.int .u64 (hh6 0), .int .u64 (hh6 1), .int .u64 (hh6 2), .int .u64 (hh6 3), .int .u64 (hh6 4), .int .u64 (hh6 5), .int .u64 (hh6 6), .int .u64 (hh6 7), .int .u64 (hh6 8), .int .u64 (hh6 9), .int .u64 (hh6 10), .int .u64 (hh6 11), .int .u64 (hh6 12), .int .u64 (hh6 13), .int .u64 (hh6 14), .int .u64 (hh6 15), .int .u64 (hh6 16), .int .u64 (hh6 17), .int .u64 (hh6 18), .int .u64 (hh6 19)] := hb10
    refine ow_nil ?_
    refine tw_seq ?_
    refine tw_seq ?_
    refine tw_region ?_
    refine ow_g (g_mv rfl) rfl ?_
    refine ow_g (g_eq rfl rfl) rfl ?_
    refine ow_nil ?_
    refine tw_if rfl (fun hc2 => ?_) (fun hc2 => ?_)
    · -- yes
      refine tw_goto rfl ?_
      refine tw_seq ?_
      refine tw_skip ?_
      refine tw_seq ?_
      refine tw_region ?_
      refine ow_g (g_ldab (cs' := [_, _, _, _, _, _, _, _, _, _, _, _, _, _, _, _, _, _, _, _]) ag30 ty30 rfl hb10 rfl rfl) rfl ?_
      refine ow_d0 (d_sta ty30 rfl rfl rfl (by simp only [List.forall_mem_cons]; refine ⟨rfl, rfl, rfl, rfl, rfl, rfl, rfl, rfl, rfl, rfl, rfl, rfl, rfl, rfl, rfl, rfl, rfl, rfl, rfl, rfl, fun v hv => by cases hv⟩) hbx4 rfl) ?_
      rintro _ w21 ⟨hb11, k19, z12⟩
      replace hbx6 := hbx6.keep k19 (fun hm => absurd (List.mem_singleton.1 hm) (Ne.symm ne_b2_b3))
      replace hbx7 := hbx7.keep k19 (fun hm => absurd (List.mem_singleton.1 hm) (Ne.symm ne_b2_b4))
      replace hb10 := hb10.keep k19 (fun hm => absurd (List.mem_singleton.1 hm) (Ne.symm ne_b2_b5))
      replace hB := hB.new k19 (fun x hx => .inl ((List.mem_singleton.1 hx) ▸ ge_b2))
      clear z12
      replace hb11 : Bk w21 b2 _ [.int .u64 (hh6 0), .int .u64 (hh6 1), .int .u64 (hh6 2), .int .u64 (hh6 3), .int .u64 (hh6 4), .int .u64 (hh6 5), .int .u64 (hh6 6), .int .u64 (hh6 7), .int .u64 (hh6 8), .int .u64 (hh6 9), .int .u64 (hh6 10), .int .u64 (hh6 11), .int .u64 (hh6 12), .int .u64 (hh6 13), .int .u64 (hh6 14), .int .u64 (hh6 15), .int .u64 (hh6 16), .int .u64 (hh6 17), .int .u64 (hh6 18), .int .u64 (hh6 19)] := hb11
      refine ow_g (g_as rfl) rfl ?_
      refine ow_nil ?_
      refine tw_retct hfin Try.results20 rfl (run_loadAgg ag30 ty30 (by assumption) rfl) rfl ?_
      exact ⟨hh6, rfl, (by have e : PtR hh6 (pmul (topN xs j) a) := E6; rw [hc2, topN_zero] at e; exact e), hB⟩
    · -- no
      refine tw_skip ?_
      refine tw_seq ?_
      refine tw_seq ?_
      refine tw_region ?_
      refine ow_g (g_mv rfl) rfl ?_
      refine ow_nil ?_
      refine tw_block ?_
      refine tw_unroll 4 ?_
      refine tw_seq ?_
      refine tw_region ?_
      refine ow_g (g_lt rfl rfl) rfl ?_
      refine ow_nil ?_
      refine tw_seq ?_
      refine tw_ifT rfl (by decide) ?_
      refine tw_skip ?_
      refine tw_seq ?_
      refine tw_block ?_
      refine tw_region ?_
      refine ow_g (g_ldab (cs' := [_, _, _, _, _, _, _, _, _, _, _, _, _, _, _, _, _, _, _, _]) ag30 ty30 rfl hb10 rfl rfl) rfl ?_
      refine ow_d (d_call (vs := [_]) rfl (doubleR E6 (on_mul ha _) _)) rfl ?_
      rintro _ w22 ⟨hh7, rfl, E7, k20⟩
      replace hbx4 := hbx4.keep0 k20
      replace hbx6 := hbx6.keep0 k20
      replace hbx7 := hbx7.keep0 k20
      replace hb10 := hb10.keep0 k20
      replace hB := hB.trans k20
      replace E7 : PtR hh7 (pmul ((topN xs j) * 2) a) := by rw [← pmul_two ha]; exact E7
      refine ow_d0 (d_sta ty30 rfl rfl rfl ivF_one hb10 rfl) ?_
      rintro _ w23 ⟨hb12, k21, z13⟩
      replace hbx4 := hbx4.keep k21 (fun hm => absurd (List.mem_singleton.1 hm) ne_b2_b5)
      replace hbx6 := hbx6.keep k21 (fun hm => absurd (List.mem_singleton.1 hm) ne_b3_b5)
      replace hbx7 := hbx7.keep k21 (fun hm => absurd (List.mem_singleton.1 hm) ne_b4_b5)
      replace hB := hB.new k21 (fun x hx => .inl ((List.mem_singleton.1 hx) ▸ ge_b5))
      clear z13
      replace hb12 : Bk w23 b5 _ [.int .u64 (hh7 0), .int .u64 (hh7 1), .int .u64 (hh7 2), .int .u64 (hh7 3), .int .u64 (hh7 4), .int .u64 (hh7 5), .int .u64 (hh7 6), .int .u64 (hh7 7), .int .u64 (hh7 8), .int .u64 (hh7 9), .int .u64 (hh7 10), .int .u64 (hh7 11), .int .u64 (hh7 12), .int .u64 (hh7 13), .int .u64 (hh7 14), .int .u64 (hh7 15), .int .u64 (hh7 16), .int .u64 (hh7 17), .int .u64 (hh7 18), .int .u64 (hh7 19)] := hb12
      refine ow_nil ?_
      refine tw_b ?_
      refine tw_region ?_
      refine ow_g (g_fold (j := 1) (g_addw rfl rfl) (by decide)) rfl ?_
      refine ow_g (g_mv rfl) rfl ?_
      refine ow_nil ?_
      refine tw_lp ?_
      refine tw_seq ?_
      refine tw_region ?_
      refine ow_g (g_lt rfl rfl) rfl ?_
      refine ow_nil ?_
      refine tw_seq ?_
      refine tw_ifT rfl (by decide) ?_
      refine tw_skip ?_
      refine tw_seq ?_
      refine tw_block ?_
      refine tw_region ?_
      refine ow_g (g_ldab (cs' := [_, _, _, _, _, _, _, _, _, _, _, _, _, _, _, _, _, _, _, _]) ag30 ty30 rfl hb12 rfl rfl) rfl ?_
      refine ow_d (d_call (vs := [_]) rfl (doubleR E7 (on_mul ha _) _)) rfl ?_
      rintro _ w24 ⟨hh8, rfl, E8, k22⟩
      replace hbx4 := hbx4.keep0 k22
      replace hbx6 := hbx6.keep0 k22
      replace hbx7 := hbx7.keep0 k22
      replace hb12 := hb12.keep0 k22
      replace hB := hB.trans k22
      replace E8 : PtR hh8 (pmul (((topN xs j) * 2) * 2) a) := by rw [← pmul_two ha]; exact E8
      refine ow_d0 (d_sta ty30 rfl rfl rfl ivF_one hb12 rfl) ?_
      rintro _ w25 ⟨hb13, k23, z14⟩
      replace hbx4 := hbx4.keep k23 (fun hm => absurd (List.mem_singleton.1 hm) ne_b2_b5)
      replace hbx6 := hbx6.keep k23 (fun hm => absurd (List.mem_singleton.1 hm) ne_b3_b5)
      replace hbx7 := hbx7.keep k23 (fun hm => absurd (List.mem_singleton.1 hm) ne_b4_b5)
      replace hB := hB.new k23 (fun x hx => .inl ((List.mem_singleton.1 hx) ▸ ge_b5))
      clear z14
      replace hb13 : Bk w25 b5 _ [.int .u64 (hh8 0), .int .u64 (hh8 1), .int .u64 (hh8 2), .int .u64 (hh8 3), .int .u64 (hh8 4), .int .u64 (hh8 5), .int .u64 (hh8 6), .int .u64 (hh8 7), .int .u64 (hh8 8), .int .u64 (hh8 9), .int .u64 (hh8 10), .int .u64 (hh8 11), .int .u64 (hh8 12), .int .u64 (hh8 13), .int .u64 (hh8 14), .int .u64 (hh8 15), .int .u64 (hh8 16), .int .u64 (hh8 17), .int .u64 (hh8 18), .int .u64 (hh8 19)] := hb13
      refine ow_nil ?_
      refine tw_b ?_
      refine tw_region ?_
      refine ow_g (g_fold (j := 2) (g_addw rfl rfl) (by decide)) rfl ?_
      refine ow_g (g_mv rfl) rfl ?_
      refine ow_nil ?_
      refine tw_lp ?_
      refine tw_seq ?_
      refine tw_region ?_
      refine ow_g (g_lt rfl rfl) rfl ?_
      refine ow_nil ?_
      refine tw_seq ?_
      refine tw_ifT rfl (by decide) ?_
      refine tw_skip ?_
      refine tw_seq ?_
      refine tw_block ?_
      refine tw_region ?_
      refine ow_g (g_ldab (cs' := [_, _, _, _, _, _, _, _, _, _, _, _, _, _, _, _, _, _, _, _]) ag30 ty30 rfl hb13 rfl rfl) rfl ?_
      refine ow_d (d_call (vs := [_]) rfl (doubleR E8 (on_mul ha _) _)) rfl ?_
      rintro _ w26 ⟨hh9, rfl, E9, k24⟩
      replace hbx4 := hbx4.keep0 k24
      replace hbx6 := hbx6.keep0 k24
      replace hbx7 := hbx7.keep0 k24
      replace hb13 := hb13.keep0 k24
      replace hB := hB.trans k24
      replace E9 : PtR hh9 (pmul ((((topN xs j) * 2) * 2) * 2) a) := by rw [← pmul_two ha]; exact E9
      refine ow_d0 (d_sta ty30 rfl rfl rfl ivF_one hb13 rfl) ?_
      rintro _ w27 ⟨hb14, k25, z15⟩
      replace hbx4 := hbx4.keep k25 (fun hm => absurd (List.mem_singleton.1 hm) ne_b2_b5)
      replace hbx6 := hbx6.keep k25 (fun hm => absurd (List.mem_singleton.1 hm) ne_b3_b5)
      replace hbx7 := hbx7.keep k25 (fun hm => absurd (List.mem_singleton.1 hm) ne_b4_b5)
      replace hB := hB.new k25 (fun x hx => .inl ((List.mem_singleton.1 hx) ▸ ge_b5))
      clear z15
      replace hb14 : Bk w27 b5 _ [.int .u64 (hh9 0), .int .u64 (hh9 1), .int .u64 (hh9 2), .int .u64 (hh9 3), .int .u64 (hh9 4), .int .u64 (hh9 5), .int .u64 (hh9 6), .int .u64 (hh9 7), .int .u64 (hh9 8), .int .u64 (hh9 9), .int .u64 (hh9 10), .int .u64 (hh9 11), .int .u64 (hh9 12), .int .u64 (hh9 13), .int .u64 (hh9 14), .int .u64 (hh9 15), .int .u64 (hh9 16), .int .u64 (hh9 17), .int .u64 (hh9 18), .int .u64 (hh9 19)] := hb14
      refine ow_nil ?_
      refine tw_b ?_
      refine tw_region ?_
      refine ow_g (g_fold (j := 3) (g_addw rfl rfl) (by decide)) rfl ?_
      refine ow_g (g_mv rfl) rfl ?_
      refine ow_nil ?_
      refine tw_lp ?_
      refine tw_seq ?_
      refine tw_region ?_
      refine ow_g (g_lt rfl rfl) rfl ?_
      refine ow_nil ?_
      refine tw_seq ?_
      refine tw_ifT rfl (by decide) ?_
      refine tw_skip ?_
      refine tw_seq ?_
      refine tw_block ?_
      refine tw_region ?_
      refine ow_g (g_ldab (cs' := [_, _, _, _, _, _, _, _, _, _, _, _, _, _, _, _, _, _, _, _]) ag30 ty30 rfl hb14 rfl rfl) rfl ?_
      refine ow_d (d_call (vs := [_]) rfl (doubleR E9 (on_mul ha _) _)) rfl ?_
      rintro _ w28 ⟨hh10, rfl, E10, k26⟩
      replace hbx4 := hbx4.keep0 k26
      replace hbx6 := hbx6.keep0 k26
      replace hbx7 := hbx7.keep0 k26
      replace hb14 := hb14.keep0 k26
      replace hB := hB.trans k26
      replace E10 : PtR hh10 (pmul (((((topN xs j) * 2) * 2) * 2) * 2) a) := by rw [← pmul_two ha]; exact E10
      refine ow_d0 (d_sta ty30 rfl rfl rfl ivF_one hb14 rfl) ?_
      rintro _ w29 ⟨hb15, k27, z16⟩
      replace hbx4 := hbx4.keep k27 (fun hm => absurd (List.mem_singleton.1 hm) ne_b2_b5)
      replace hbx6 := hbx6.keep k27 (fun hm => absurd (List.mem_singleton.1 hm) ne_b3_b5)
      replace hbx7 := hbx7.keep k27 (fun hm => absurd (List.mem_singleton.1 hm) ne_b4_b5)
      replace hB := hB.new k27 (fun x hx => .inl ((List.mem_singleton.1 hx) ▸ ge_b5))
      clear z16
      replace hb15 : Bk w29 b5 _ [.int .u64 (hh10 0), .int .u64 (hh10 1), .int .u64 (hh10 2), .int .u64 (hh10 3), .int .u64 (hh10 4), .int .u64 (hh10 5), .int .u64 (hh10 6), .int .u64 (hh10 7), .int .u64 (hh10 8), .int .u64 (hh10 9), .int .u64 (hh10 10), .int .u64 (hh10 11), .int .u64 (hh10 12), .int .u64 (hh10 13), .int .u64 (hh10 14), .int .u64 (hh10 15), .int .u64 (hh10 16), .int .u64 (hh10 17), .int .u64 (hh10 18), .int .u64 (hh10 19)] := hb15
      refine ow_nil ?_
      refine tw_b ?_
      refine tw_region ?_
      refine ow_g (g_fold (j := 4) (g_addw rfl rfl) (by decide)) rfl ?_
      refine ow_g (g_mv rfl) rfl ?_
      refine ow_nil ?_
      refine tw_lp ?_
      refine tw_seq ?_
      refine tw_region ?_
      refine ow_g (g_lt rfl rfl) rfl ?_
      refine ow_nil ?_
      refine tw_seq ?_
      refine tw_ifF rfl (by decide) ?_
      refine tw_exit rfl ?_
      refine tw_seq ?_
      refine tw_region ?_
      refine ow_g (g_mv rfl) rfl ?_
      refine ow_g (g_sub rfl rfl (by omega)) rfl ?_
      refine ow_g (g_as rfl) rfl ?_
      refine ow_nil ?_
      refine tw_seq ?_
      refine tw_goto rfl ?_
      refine tw_seq ?_
      refine tw_skip ?_
      refine tw_keep [(1, v), (4, .pointer (some ⟨b2, 0, none⟩)), (6, .pointer (some ⟨b3, 0, none⟩)), (7, .pointer (some ⟨b4, 0, none⟩)), (9, .pointer (some ⟨b5, 0, none⟩)), (10, .int .i64 (j - 1))] ⟨rfl, rfl, rfl, rfl, rfl, rfl, trivial⟩ ?_
      exact again ⟨j - 1, hh10⟩ _ (by show (j - 1 + 1).toNat ≤ _; have : (j + 1).toNat ≤ mm + 1 := hmu; omega) (⟨by omega, by omega, (by rw [show j - 1 + 1 = j by omega, show topN xs j * 16 = topN xs j * 2 * 2 * 2 * 2 by omega]; exact E10), hbx4, hbx6, hbx7, hb15, hB⟩)

end Go.Proofs.Ytkngeapegpehpaa.W
