import Derived.Test.YtkngeapegpehpaaFbz
namespace Go.Proofs.Ytkngeapegpehpaa.W
open Go Go.Eng Go.Byt
set_option linter.unusedVariables false
set_option linter.unusedSimpArgs false
open Go.Fld Go.Ed
set_option maxRecDepth 100000 in
set_option maxHeartbeats 1000000 in
theorem same_any (f g : Nat → Int) (a b : Fp) (hf : El f a) (hg : El g b) (w : World) : Rets Try.prog 83 [.agg (iv .u64 5 f).toArray, .agg (iv .u64 5 g).toArray] w (fun v w' => v = .bool (decide (a = b)) ∧ Keep [] w w') := by
  have hB : Keep [] w w := Keep.refl _ _
  refine rets_of_tw Try.func83 rfl (by decide) Try.ntmps83 rfl (fun fin _ hfin => ?_)
  refine tw_seq ?_
  refine tw_region ?_
  refine ow_d (d_box (cs := [.int .u64 (f 0), .int .u64 (f 1), .int .u64 (f 2), .int .u64 (f 3), .int .u64 (f 4)]) rfl rfl) rfl ?_
  rintro _ w1 ⟨b1, rfl, eb1, hb1, k1, z1⟩
  have ge_b1 : w.heap.size ≤ b1 := by have := hB.size; omega
  replace hB := hB.trans k1
  clear eb1 z1
  refine ow_d (d_box (cs := [.int .u64 (g 0), .int .u64 (g 1), .int .u64 (g 2), .int .u64 (g 3), .int .u64 (g 4)]) rfl rfl) rfl ?_
  rintro _ w2 ⟨b2, rfl, eb2, hb2, k2, z2⟩
  have ge_b2 : w.heap.size ≤ b2 := by have := hB.size; omega
  have ne_b1_b2 : b1 ≠ b2 := by have := hb1.lt; omega
  replace hb1 := hb1.keep0 k2
  replace hB := hB.trans k2
  clear eb2 z2
  refine ow_g (g_as rfl) rfl ?_
  refine ow_nil ?_
  refine tw_keep [(2, _), (3, _)] ⟨rfl, rfl, trivial⟩ ?_
  refine tw_seq ?_
  refine tw_plan 9 [0, 4, 1, 2, 3, 5, 6, 7, 8] [1, 5] [] mixed [(2, _), (3, _)] ⟨rfl, rfl, trivial⟩ (by decide +kernel) rfl (fun w3 k3 => ?_)
  replace hb1 := hb1.keep0 k3
  replace hb2 := hb2.keep0 k3
  replace hB := hB.trans k3
  refine pw_g [(2, _)] rfl rfl ⟨rfl, trivial⟩ rfl (fun W' kk => g_ldab (cs' := [_, _, _, _, _]) ag26 ty26 rfl (Bk.keep0 hb1 kk) rfl rfl) ?_
  refine pw_g [(3, _)] rfl rfl ⟨rfl, trivial⟩ rfl (fun W' kk => g_ldab (cs' := [_, _, _, _, _]) ag26 ty26 rfl (Bk.keep0 hb2 kk) rfl rfl) ?_
  refine pw_d [(5, _)] rfl rfl ⟨rfl, trivial⟩ rfl (d_call (vs := [_]) rfl (put_any _ _ hf _)) ?_
  rintro v1 w4 ⟨o1, k4⟩
  refine ⟨k4, ?_⟩
  have gl_o1 := hB.size
  have sb_b1_o1 := fun x hx => (show x ≠ b1 from by have h1 := (o1.blk x hx).1; have h2 := hb1.lt; omega)
  have sb_b2_o1 := fun x hx => (show x ≠ b2 from by have h1 := (o1.blk x hx).1; have h2 := hb2.lt; omega)
  replace hb1 := hb1.keep0 k4
  replace hb2 := hb2.keep0 k4
  replace hB := hB.trans k4
  have u_o1 := o1.blk
  refine pw_g [(6, _)] rfl rfl ⟨rfl, trivial⟩ rfl (fun W' kk => g_sap Try.underlying116 rfl (by first | exact Rd.keep0 (by assumption) kk | exact Rd.keep0 (Own.rd (by assumption)) kk | exact Rd.keep0 (Rd.keep0 (by assumption) hB) kk | exact Rd.keep0 (Own.rd (Own.keep0 (by assumption) hB)) kk) (by simp only [Fld.fpB_length]; rfl) rfl) ?_
  refine pw_g [(7, _)] rfl rfl ⟨rfl, trivial⟩ rfl (fun W' kk => g_ldaB (xs := (fpB a)) ag116 ty116 rfl (by first | exact Rd.keep0 (by assumption) kk | exact Rd.keep0 (Own.rd (by assumption)) kk | exact Rd.keep0 (Rd.keep0 (by assumption) hB) kk | exact Rd.keep0 (Own.rd (Own.keep0 (by assumption) hB)) kk) (Fld.fpB_length _) rfl) ?_
  refine pw_d [(9, _)] rfl rfl ⟨rfl, trivial⟩ rfl (d_call (vs := [_]) rfl (put_any _ _ hg _)) ?_
  rintro v2 w5 ⟨o2, k5⟩
  refine ⟨k5, ?_⟩
  have gl_o2 := hB.size
  have sb_b1_o2 := fun x hx => (show x ≠ b1 from by have h1 := (o2.blk x hx).1; have h2 := hb1.lt; omega)
  have sb_b2_o2 := fun x hx => (show x ≠ b2 from by have h1 := (o2.blk x hx).1; have h2 := hb2.lt; omega)
  replace hb1 := hb1.keep0 k5
  replace hb2 := hb2.keep0 k5
  replace o1 := o1.keep0 k5
  replace hB := hB.trans k5
  have u_o2 := o2.blk
  refine pw_g [(10, _)] rfl rfl ⟨rfl, trivial⟩ rfl (fun W' kk => g_sap Try.underlying116 rfl (by first | exact Rd.keep0 (by assumption) kk | exact Rd.keep0 (Own.rd (by assumption)) kk | exact Rd.keep0 (Rd.keep0 (by assumption) hB) kk | exact Rd.keep0 (Own.rd (Own.keep0 (by assumption) hB)) kk) (by simp only [Fld.fpB_length]; rfl) rfl) ?_
  refine pw_g [(11, _)] rfl rfl ⟨rfl, trivial⟩ rfl (fun W' kk => g_ldaB (xs := (fpB b)) ag116 ty116 rfl (by first | exact Rd.keep0 (by assumption) kk | exact Rd.keep0 (Own.rd (by assumption)) kk | exact Rd.keep0 (Rd.keep0 (by assumption) hB) kk | exact Rd.keep0 (Own.rd (Own.keep0 (by assumption) hB)) kk) (Fld.fpB_length _) rfl) ?_
  refine pw_g [(8, _), (12, _)] rfl rfl ⟨rfl, rfl, trivial⟩ rfl (fun W' kk => g_eqB Try.underlying116 Try.underlying5 ty5.sizeOf (by kernel_rfl) rfl rfl (Fld.fpB_length _) (Fld.fpB_length _)) ?_
  refine pw_nil ?_
  refine ow_g (g_as rfl) rfl ?_
  refine ow_nil ?_
  refine tw_keep [(4, _)] ⟨rfl, trivial⟩ ?_
  refine tw_ret1 hfin Try.results83 rfl ?_
  exact ⟨by rw [fpB_dec], hB⟩

set_option maxRecDepth 100000 in
set_option maxHeartbeats 1000000 in
theorem zero_any (f : Nat → Int) (a : Fp) (hf : El f a) (w : World) : Rets Try.prog 85 [.agg (iv .u64 5 f).toArray] w (fun v w' => v = .bool (decide (a = 0)) ∧ Keep [] w w') := by
  have hB : Keep [] w w := Keep.refl _ _
  refine rets_of_tw Try.func85 rfl (by decide) Try.ntmps85 rfl (fun fin _ hfin => ?_)
  refine tw_seq ?_
  refine tw_region ?_
  refine ow_d (d_box (cs := [.int .u64 (f 0), .int .u64 (f 1), .int .u64 (f 2), .int .u64 (f 3), .int .u64 (f 4)]) rfl rfl) rfl ?_
  rintro _ w1 ⟨b1, rfl, eb1, hb1, k1, z1⟩
  have ge_b1 : w.heap.size ≤ b1 := by have := hB.size; omega
  replace hB := hB.trans k1
  clear eb1 z1
  refine ow_g (g_as rfl) rfl ?_
  refine ow_nil ?_
  refine tw_keep [(1, _)] ⟨rfl, trivial⟩ ?_
  refine tw_seq ?_
  refine tw_region ?_
  refine ow_g (g_ldab (cs' := [_, _, _, _, _]) ag26 ty26 rfl hb1 rfl rfl) rfl ?_
  refine ow_g (g_blda (idx := []) (xs := []) (vs := []) (css := []) (out := [.int .u64 0, .int .u64 0, .int .u64 0, .int .u64 0, .int .u64 0]) Try.underlying26 ty24 ty26 (arr_pls 5 1) rfl rfl trivial rfl rfl) rfl ?_
  refine ow_d (d_call (vs := [_, _]) rfl (same_any _ _ _ _ hf el_zero _)) rfl ?_
  rintro _ w2 ⟨rfl, k2⟩
  replace hb1 := hb1.keep0 k2
  replace hB := hB.trans k2
  refine ow_g (g_as rfl) rfl ?_
  refine ow_nil ?_
  refine tw_keep [(2, _)] ⟨rfl, trivial⟩ ?_
  refine tw_ret1 hfin Try.results85 rfl ?_
  exact ⟨rfl, hB⟩

set_option maxRecDepth 100000 in
set_option maxHeartbeats 1000000 in
theorem nplus_any (f g : Nat → Int) (a b : Fp) (hf : El f a) (hg : El g b) (w : World) : Rets Try.prog 41 [.agg (iv .u64 5 f).toArray, .agg (iv .u64 5 g).toArray] w (fun v w' => ∃ h, v = .agg (iv .u64 5 h).toArray ∧ El h (a + b) ∧ Keep [] w w') := by
  have hB : Keep [] w w := Keep.refl _ _
  refine rets_of_tw Try.func41 rfl (by decide) Try.ntmps41 rfl (fun fin _ hfin => ?_)
  refine tw_seq ?_
  refine tw_region ?_
  refine ow_d (d_box (cs := [.int .u64 (f 0), .int .u64 (f 1), .int .u64 (f 2), .int .u64 (f 3), .int .u64 (f 4)]) rfl rfl) rfl ?_
  rintro _ w1 ⟨b1, rfl, eb1, hb1, k1, z1⟩
  have ge_b1 : w.heap.size ≤ b1 := by have := hB.size; omega
  replace hB := hB.trans k1
  clear eb1 z1
  refine ow_d (d_box (cs := [.int .u64 (g 0), .int .u64 (g 1), .int .u64 (g 2), .int .u64 (g 3), .int .u64 (g 4)]) rfl rfl) rfl ?_
  rintro _ w2 ⟨b2, rfl, eb2, hb2, k2, z2⟩
  have ge_b2 : w.heap.size ≤ b2 := by have := hB.size; omega
  have ne_b1_b2 : b1 ≠ b2 := by have := hb1.lt; omega
  replace hb1 := hb1.keep0 k2
  replace hB := hB.trans k2
  clear eb2 z2
  refine ow_d (d_alloc ty28) rfl ?_
  rintro _ w3 ⟨b3, rfl, eb3, hb3, k3, z3⟩
  have ge_b3 : w.heap.size ≤ b3 := by have := hB.size; omega
  have ne_b1_b3 : b1 ≠ b3 := by have := hb1.lt; omega
  have ne_b2_b3 : b2 ≠ b3 := by have := hb2.lt; omega
  replace hb1 := hb1.keep0 k3
  replace hb2 := hb2.keep0 k3
  replace hB := hB.trans k3
  clear eb3 z3
  refine ow_nil ?_
  refine tw_keep [(2, _), (3, _), (4, _)] ⟨rfl, rfl, rfl, trivial⟩ ?_
  refine tw_seq ?_
  refine tw_region ?_
  refine ow_g (g_fa Try.underlying28 rfl ty26 (by decide) rfl) rfl ?_
  refine ow_g (g_ldab (cs' := [_, _, _, _, _]) ag26 ty26 rfl hb1 rfl rfl) rfl ?_
  refine ow_g (g_fa Try.underlying28 rfl ty26 (by decide) rfl) rfl ?_
  refine ow_g (g_ldab (cs' := [_, _, _, _, _]) ag26 ty26 rfl hb2 rfl rfl) rfl ?_
  refine ow_d (d_call (vs := [_, _]) rfl (add_any _ _ _ _ hf hg _)) rfl ?_
  rintro _ w4 ⟨hh1, rfl, E1, k4⟩
  replace hb1 := hb1.keep0 k4
  replace hb2 := hb2.keep0 k4
  replace hb3 := hb3.keep0 k4
  replace hB := hB.trans k4
  refine ow_g (g_bld (idx := [0]) (xs := [.tmp 9]) (vs := [_]) (css := [[_, _, _, _, _]]) (out := [_, _, _, _, _]) pl28 ty28 rfl rfl ⟨rfl, trivial⟩ rfl rfl) rfl ?_
  refine ow_d0 (d_sta ty28 rfl rfl rfl (by simp only [List.forall_mem_cons]; refine ⟨rfl, rfl, rfl, rfl, rfl, fun v hv => by cases hv⟩) hb3 rfl) ?_
  rintro _ w5 ⟨hb4, k5, z4⟩
  replace hb1 := hb1.keep k5 (fun hm => absurd (List.mem_singleton.1 hm) ne_b1_b3)
  replace hb2 := hb2.keep k5 (fun hm => absurd (List.mem_singleton.1 hm) ne_b2_b3)
  replace hB := hB.new k5 (fun x hx => .inl ((List.mem_singleton.1 hx) ▸ ge_b3))
  clear z4
  replace hb4 : Bk w5 b3 _ [.int .u64 (hh1 0), .int .u64 (hh1 1), .int .u64 (hh1 2), .int .u64 (hh1 3), .int .u64 (hh1 4)] := hb4
  refine ow_nil ?_
  refine tw_keep [(4, _)] ⟨rfl, trivial⟩ ?_
  refine tw_retc hfin Try.results41 rfl (run_loadAgg ag28 ty28 (by assumption) rfl)  ?_
  exact ⟨hh1, rfl, E1, hB⟩

set_option maxRecDepth 100000 in
set_option maxHeartbeats 1000000 in
theorem nminus_any (f g : Nat → Int) (a b : Fp) (hf : El f a) (hg : El g b) (w : World) : Rets Try.prog 39 [.agg (iv .u64 5 f).toArray, .agg (iv .u64 5 g).toArray] w (fun v w' => ∃ h, v = .agg (iv .u64 5 h).toArray ∧ El h (a - b) ∧ Keep [] w w') := by
  have hB : Keep [] w w := Keep.refl _ _
  refine rets_of_tw Try.func39 rfl (by decide) Try.ntmps39 rfl (fun fin _ hfin => ?_)
  refine tw_seq ?_
  refine tw_region ?_
  refine ow_d (d_box (cs := [.int .u64 (f 0), .int .u64 (f 1), .int .u64 (f 2), .int .u64 (f 3), .int .u64 (f 4)]) rfl rfl) rfl ?_
  rintro _ w1 ⟨b1, rfl, eb1, hb1, k1, z1⟩
  have ge_b1 : w.heap.size ≤ b1 := by have := hB.size; omega
  replace hB := hB.trans k1
  clear eb1 z1
  refine ow_d (d_box (cs := [.int .u64 (g 0), .int .u64 (g 1), .int .u64 (g 2), .int .u64 (g 3), .int .u64 (g 4)]) rfl rfl) rfl ?_
  rintro _ w2 ⟨b2, rfl, eb2, hb2, k2, z2⟩
  have ge_b2 : w.heap.size ≤ b2 := by have := hB.size; omega
  have ne_b1_b2 : b1 ≠ b2 := by have := hb1.lt; omega
  replace hb1 := hb1.keep0 k2
  replace hB := hB.trans k2
  clear eb2 z2
  refine ow_d (d_alloc ty28) rfl ?_
  rintro _ w3 ⟨b3, rfl, eb3, hb3, k3, z3⟩
  have ge_b3 : w.heap.size ≤ b3 := by have := hB.size; omega
  have ne_b1_b3 : b1 ≠ b3 := by have := hb1.lt; omega
  have ne_b2_b3 : b2 ≠ b3 := by have := hb2.lt; omega
  replace hb1 := hb1.keep0 k3
  replace hb2 := hb2.keep0 k3
  replace hB := hB.trans k3
  clear eb3 z3
  refine ow_nil ?_
  refine tw_keep [(2, _), (3, _), (4, _)] ⟨rfl, rfl, rfl, trivial⟩ ?_
  refine tw_seq ?_
  refine tw_region ?_
  refine ow_g (g_fa Try.underlying28 rfl ty26 (by decide) rfl) rfl ?_
  refine ow_g (g_ldab (cs' := [_, _, _, _, _]) ag26 ty26 rfl hb1 rfl rfl) rfl ?_
  refine ow_g (g_fa Try.underlying28 rfl ty26 (by decide) rfl) rfl ?_
  refine ow_g (g_ldab (cs' := [_, _, _, _, _]) ag26 ty26 rfl hb2 rfl rfl) rfl ?_
  refine ow_d (d_call (vs := [_, _]) rfl (sub_any _ _ _ _ hf hg _)) rfl ?_
  rintro _ w4 ⟨hh1, rfl, E1, k4⟩
  replace hb1 := hb1.keep0 k4
  replace hb2 := hb2.keep0 k4
  replace hb3 := hb3.keep0 k4
  replace hB := hB.trans k4
  refine ow_g (g_bld (idx := [0]) (xs := [.tmp 9]) (vs := [_]) (css := [[_, _, _, _, _]]) (out := [_, _, _, _, _]) pl28 ty28 rfl rfl ⟨rfl, trivial⟩ rfl rfl) rfl ?_
  refine ow_d0 (d_sta ty28 rfl rfl rfl (by simp only [List.forall_mem_cons]; refine ⟨rfl, rfl, rfl, rfl, rfl, fun v hv => by cases hv⟩) hb3 rfl) ?_
  rintro _ w5 ⟨hb4, k5, z4⟩
  replace hb1 := hb1.keep k5 (fun hm => absurd (List.mem_singleton.1 hm) ne_b1_b3)
  replace hb2 := hb2.keep k5 (fun hm => absurd (List.mem_singleton.1 hm) ne_b2_b3)
  replace hB := hB.new k5 (fun x hx => .inl ((List.mem_singleton.1 hx) ▸ ge_b3))
  clear z4
  replace hb4 : Bk w5 b3 _ [.int .u64 (hh1 0), .int .u64 (hh1 1), .int .u64 (hh1 2), .int .u64 (hh1 3), .int .u64 (hh1 4)] := hb4
  refine ow_nil ?_
  refine tw_keep [(4, _)] ⟨rfl, trivial⟩ ?_
  refine tw_retc hfin Try.results39 rfl (run_loadAgg ag28 ty28 (by assumption) rfl)  ?_
  exact ⟨hh1, rfl, E1, hB⟩

set_option maxRecDepth 100000 in
set_option maxHeartbeats 1000000 in
theorem ntimes_any (f g : Nat → Int) (a b : Fp) (hf : El f a) (hg : El g b) (w : World) : Rets Try.prog 37 [.agg (iv .u64 5 f).toArray, .agg (iv .u64 5 g).toArray] w (fun v w' => ∃ h, v = .agg (iv .u64 5 h).toArray ∧ El h (a * b) ∧ Keep [] w w') := by
  have hB : Keep [] w w := Keep.refl _ _
  refine rets_of_tw Try.func37 rfl (by decide) Try.ntmps37 rfl (fun fin _ hfin => ?_)
  refine tw_seq ?_
  refine tw_region ?_
  refine ow_d (d_box (cs := [.int .u64 (f 0), .int .u64 (f 1), .int .u64 (f 2), .int .u64 (f 3), .int .u64 (f 4)]) rfl rfl) rfl ?_
  rintro _ w1 ⟨b1, rfl, eb1, hb1, k1, z1⟩
  have ge_b1 : w.heap.size ≤ b1 := by have := hB.size; omega
  replace hB := hB.trans k1
  clear eb1 z1
  refine ow_d (d_box (cs := [.int .u64 (g 0), .int .u64 (g 1), .int .u64 (g 2), .int .u64 (g 3), .int .u64 (g 4)]) rfl rfl) rfl ?_
  rintro _ w2 ⟨b2, rfl, eb2, hb2, k2, z2⟩
  have ge_b2 : w.heap.size ≤ b2 := by have := hB.size; omega
  have ne_b1_b2 : b1 ≠ b2 := by have := hb1.lt; omega
  replace hb1 := hb1.keep0 k2
  replace hB := hB.trans k2
  clear eb2 z2
  refine ow_d (d_alloc ty28) rfl ?_
  rintro _ w3 ⟨b3, rfl, eb3, hb3, k3, z3⟩
  have ge_b3 : w.heap.size ≤ b3 := by have := hB.size; omega
  have ne_b1_b3 : b1 ≠ b3 := by have := hb1.lt; omega
  have ne_b2_b3 : b2 ≠ b3 := by have := hb2.lt; omega
  replace hb1 := hb1.keep0 k3
  replace hb2 := hb2.keep0 k3
  replace hB := hB.trans k3
  clear eb3 z3
  refine ow_nil ?_
  refine tw_keep [(2, _), (3, _), (4, _)] ⟨rfl, rfl, rfl, trivial⟩ ?_
  refine tw_seq ?_
  refine tw_region ?_
  refine ow_g (g_fa Try.underlying28 rfl ty26 (by decide) rfl) rfl ?_
  refine ow_g (g_ldab (cs' := [_, _, _, _, _]) ag26 ty26 rfl hb1 rfl rfl) rfl ?_
  refine ow_g (g_fa Try.underlying28 rfl ty26 (by decide) rfl) rfl ?_
  refine ow_g (g_ldab (cs' := [_, _, _, _, _]) ag26 ty26 rfl hb2 rfl rfl) rfl ?_
  refine ow_d (d_call (vs := [_, _]) rfl (mul_any _ _ _ _ hf hg _)) rfl ?_
  rintro _ w4 ⟨hh1, rfl, E1, k4⟩
  replace hb1 := hb1.keep0 k4
  replace hb2 := hb2.keep0 k4
  replace hb3 := hb3.keep0 k4
  replace hB := hB.trans k4
  refine ow_g (g_bld (idx := [0]) (xs := [.tmp 9]) (vs := [_]) (css := [[_, _, _, _, _]]) (out := [_, _, _, _, _]) pl28 ty28 rfl rfl ⟨rfl, trivial⟩ rfl rfl) rfl ?_
  refine ow_d0 (d_sta ty28 rfl rfl rfl (by simp only [List.forall_mem_cons]; refine ⟨rfl, rfl, rfl, rfl, rfl, fun v hv => by cases hv⟩) hb3 rfl) ?_
  rintro _ w5 ⟨hb4, k5, z4⟩
  replace hb1 := hb1.keep k5 (fun hm => absurd (List.mem_singleton.1 hm) ne_b1_b3)
  replace hb2 := hb2.keep k5 (fun hm => absurd (List.mem_singleton.1 hm) ne_b2_b3)
  replace hB := hB.new k5 (fun x hx => .inl ((List.mem_singleton.1 hx) ▸ ge_b3))
  clear z4
  replace hb4 : Bk w5 b3 _ [.int .u64 (hh1 0), .int .u64 (hh1 1), .int .u64 (hh1 2), .int .u64 (hh1 3), .int .u64 (hh1 4)] := hb4
  refine ow_nil ?_
  refine tw_keep [(4, _)] ⟨rfl, trivial⟩ ?_
  refine tw_retc hfin Try.results37 rfl (run_loadAgg ag28 ty28 (by assumption) rfl)  ?_
  exact ⟨hh1, rfl, E1, hB⟩

set_option maxRecDepth 100000 in
set_option maxHeartbeats 1000000 in
theorem ninverse_any (f : Nat → Int) (a : Fp) (hf : El f a) (w : World) : Rets Try.prog 55 [.agg (iv .u64 5 f).toArray] w (fun v w' => ∃ h, v = .agg (iv .u64 5 h).toArray ∧ El h (inv a) ∧ Keep [] w w') := by
  have hB : Keep [] w w := Keep.refl _ _
  refine rets_of_tw Try.func55 rfl (by decide) Try.ntmps55 rfl (fun fin _ hfin => ?_)
  refine tw_seq ?_
  refine tw_region ?_
  refine ow_d (d_box (cs := [.int .u64 (f 0), .int .u64 (f 1), .int .u64 (f 2), .int .u64 (f 3), .int .u64 (f 4)]) rfl rfl) rfl ?_
  rintro _ w1 ⟨b1, rfl, eb1, hb1, k1, z1⟩
  have ge_b1 : w.heap.size ≤ b1 := by have := hB.size; omega
  replace hB := hB.trans k1
  clear eb1 z1
  refine ow_d (d_alloc ty28) rfl ?_
  rintro _ w2 ⟨b2, rfl, eb2, hb2, k2, z2⟩
  have ge_b2 : w.heap.size ≤ b2 := by have := hB.size; omega
  have ne_b1_b2 : b1 ≠ b2 := by have := hb1.lt; omega
  replace hb1 := hb1.keep0 k2
  replace hB := hB.trans k2
  clear eb2 z2
  refine ow_nil ?_
  refine tw_keep [(1, _), (2, _)] ⟨rfl, rfl, trivial⟩ ?_
  refine tw_seq ?_
  refine tw_region ?_
  refine ow_g (g_fa Try.underlying28 rfl ty26 (by decide) rfl) rfl ?_
  refine ow_g (g_ldab (cs' := [_, _, _, _, _]) ag26 ty26 rfl hb1 rfl rfl) rfl ?_
  refine ow_d (d_call (vs := [_]) rfl (inv_any _ _ hf _)) rfl ?_
  rintro _ w3 ⟨hh1, rfl, E1, k3⟩
  replace hb1 := hb1.keep0 k3
  replace hb2 := hb2.keep0 k3
  replace hB := hB.trans k3
  refine ow_g (g_bld (idx := [0]) (xs := [.tmp 5]) (vs := [_]) (css := [[_, _, _, _, _]]) (out := [_, _, _, _, _]) pl28 ty28 rfl rfl ⟨rfl, trivial⟩ rfl rfl) rfl ?_
  refine ow_d0 (d_sta ty28 rfl rfl rfl (by simp only [List.forall_mem_cons]; refine ⟨rfl, rfl, rfl, rfl, rfl, fun v hv => by cases hv⟩) hb2 rfl) ?_
  rintro _ w4 ⟨hb3, k4, z3⟩
  replace hb1 := hb1.keep k4 (fun hm => absurd (List.mem_singleton.1 hm) ne_b1_b2)
  replace hB := hB.new k4 (fun x hx => .inl ((List.mem_singleton.1 hx) ▸ ge_b2))
  clear z3
  replace hb3 : Bk w4 b2 _ [.int .u64 (hh1 0), .int .u64 (hh1 1), .int .u64 (hh1 2), .int .u64 (hh1 3), .int .u64 (hh1 4)] := hb3
  refine ow_nil ?_
  refine tw_keep [(2, _)] ⟨rfl, trivial⟩ ?_
  refine tw_retc hfin Try.results55 rfl (run_loadAgg ag28 ty28 (by assumption) rfl)  ?_
  exact ⟨hh1, rfl, E1, hB⟩

set_option maxRecDepth 100000 in
set_option maxHeartbeats 1000000 in
theorem nbytes_any (f : Nat → Int) (a : Fp) (hf : El f a) (w : World) : Rets Try.prog 35 [.agg (iv .u64 5 f).toArray] w (fun v w' => OwnB w' w.heap.size v (fpB a) ∧ Keep [] w w') := by
  have hB : Keep [] w w := Keep.refl _ _
  refine rets_of_tw Try.func35 rfl (by decide) Try.ntmps35 rfl (fun fin _ hfin => ?_)
  refine tw_seq ?_
  refine tw_region ?_
  refine ow_d (d_box (cs := [.int .u64 (f 0), .int .u64 (f 1), .int .u64 (f 2), .int .u64 (f 3), .int .u64 (f 4)]) rfl rfl) rfl ?_
  rintro _ w1 ⟨b1, rfl, eb1, hb1, k1, z1⟩
  have ge_b1 : w.heap.size ≤ b1 := by have := hB.size; omega
  replace hB := hB.trans k1
  clear eb1 z1
  refine ow_g (g_as rfl) rfl ?_
  refine ow_nil ?_
  refine tw_keep [(1, _)] ⟨rfl, trivial⟩ ?_
  refine tw_seq ?_
  refine tw_region ?_
  refine ow_g (g_fa Try.underlying28 rfl ty26 (by decide) rfl) rfl ?_
  refine ow_g (g_ldab (cs' := [_, _, _, _, _]) ag26 ty26 rfl hb1 rfl rfl) rfl ?_
  refine ow_d (d_call (vs := [_]) rfl (put_any _ _ hf _)) rfl ?_
  rintro v1 w2 ⟨o1, k2⟩
  have gl_o1 := hB.size
  have sb_b1_o1 := fun x hx => (show x ≠ b1 from by have h1 := (o1.blk x hx).1; have h2 := hb1.lt; omega)
  replace hb1 := hb1.keep0 k2
  replace hB := hB.trans k2
  have u_o1 := o1.blk
  refine ow_g (g_as rfl) rfl ?_
  refine ow_nil ?_
  refine tw_keep [(2, _)] ⟨rfl, trivial⟩ ?_
  refine tw_ret1 hfin Try.results35 rfl ?_
  exact ⟨o1.lo gl_o1, hB⟩

end Go.Proofs.Ytkngeapegpehpaa.W
