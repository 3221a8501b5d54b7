import Derived.Test.YtkngeapegpehpaaPtc
namespace Go.Proofs.Ytkngeapegpehpaa.W
open Go Go.Eng Go.Byt
set_option linter.unusedVariables false
set_option linter.unusedSimpArgs false
open Go.Fld Go.Ed
set_option maxRecDepth 100000 in
set_option maxHeartbeats 1000000 in
theorem Pplus_any (p q : Nat → Int) (X1 Y1 Z1 T1 X2 Y2 Z2 T2 : Fp) (hp : PtEl p X1 Y1 Z1 T1) (hz1 : Z1 ≠ 0) (hq : PtEl q X2 Y2 Z2 T2) (hz2 : Z2 ≠ 0) (w : World) : Rets Try.prog 23 [.agg (iv .u64 20 p).toArray, .agg (iv .u64 20 q).toArray] w (fun v w' => ∃ r, v = .agg (iv .u64 20 r).toArray ∧ PtEl r (((X1 + Y1) * (X2 + Y2) - X1 * X2 - Y1 * Y2) * (Z1 * Z2 - T1 * T2 * d)) ((Z1 * Z2 + T1 * T2 * d) * (Y1 * Y2 + X1 * X2)) ((Z1 * Z2 - T1 * T2 * d) * (Z1 * Z2 + T1 * T2 * d)) (((X1 + Y1) * (X2 + Y2) - X1 * X2 - Y1 * Y2) * (Y1 * Y2 + X1 * X2)) ∧ Keep [] w w') := by
  have hB : Keep [] w w := Keep.refl _ _
  refine rets_of_tw Try.func23 rfl (by decide) Try.ntmps23 rfl (fun fin _ hfin => ?_)
  refine tw_seq ?_
  refine tw_region ?_
  refine ow_d (d_box (cs := [.int .u64 (p 0), .int .u64 (p 1), .int .u64 (p 2), .int .u64 (p 3), .int .u64 (p 4), .int .u64 (p 5), .int .u64 (p 6), .int .u64 (p 7), .int .u64 (p 8), .int .u64 (p 9), .int .u64 (p 10), .int .u64 (p 11), .int .u64 (p 12), .int .u64 (p 13), .int .u64 (p 14), .int .u64 (p 15), .int .u64 (p 16), .int .u64 (p 17), .int .u64 (p 18), .int .u64 (p 19)]) rfl rfl) rfl ?_
  rintro _ w1 ⟨b1, rfl, eb1, hb1, k1, z1⟩
  have ge_b1 : w.heap.size ≤ b1 := by have := hB.size; omega
  replace hB := hB.trans k1
  clear eb1 z1
  refine ow_d (d_box (cs := [.int .u64 (q 0), .int .u64 (q 1), .int .u64 (q 2), .int .u64 (q 3), .int .u64 (q 4), .int .u64 (q 5), .int .u64 (q 6), .int .u64 (q 7), .int .u64 (q 8), .int .u64 (q 9), .int .u64 (q 10), .int .u64 (q 11), .int .u64 (q 12), .int .u64 (q 13), .int .u64 (q 14), .int .u64 (q 15), .int .u64 (q 16), .int .u64 (q 17), .int .u64 (q 18), .int .u64 (q 19)]) rfl rfl) rfl ?_
  rintro _ w2 ⟨b2, rfl, eb2, hb2, k2, z2⟩
  have ge_b2 : w.heap.size ≤ b2 := by have := hB.size; omega
  have ne_b1_b2 : b1 ≠ b2 := by have := hb1.lt; omega
  replace hb1 := hb1.keep0 k2
  replace hB := hB.trans k2
  clear eb2 z2
  refine ow_d (d_alloc ty30) rfl ?_
  rintro _ w3 ⟨b3, rfl, eb3, hb3, k3, z3⟩
  have ge_b3 : w.heap.size ≤ b3 := by have := hB.size; omega
  have ne_b1_b3 : b1 ≠ b3 := by have := hb1.lt; omega
  have ne_b2_b3 : b2 ≠ b3 := by have := hb2.lt; omega
  replace hb1 := hb1.keep0 k3
  replace hb2 := hb2.keep0 k3
  replace hB := hB.trans k3
  clear eb3 z3
  refine ow_nil ?_
  refine tw_keep [(2, _), (3, _), (4, _)] ⟨rfl, rfl, rfl, trivial⟩ ?_
  refine tw_seq ?_
  refine tw_plan 6 [0, 2, 1, 3, 4, 5] [1, 3, 4, 5] [] mixed [(2, _), (3, _), (4, _)] ⟨rfl, rfl, rfl, trivial⟩ (by decide +kernel) rfl (fun w4 k4 => ?_)
  replace hb1 := hb1.keep0 k4
  replace hb2 := hb2.keep0 k4
  replace hb3 := hb3.keep0 k4
  replace hB := hB.trans k4
  refine pw_g [(2, _)] rfl rfl ⟨rfl, trivial⟩ rfl (fun W' kk => g_ldab (cs' := [_, _, _, _, _, _, _, _, _, _, _, _, _, _, _, _, _, _, _, _]) ag30 ty30 rfl (Bk.keep0 hb1 kk) rfl rfl) ?_
  refine pw_g [(3, _)] rfl rfl ⟨rfl, trivial⟩ rfl (fun W' kk => g_ldab (cs' := [_, _, _, _, _, _, _, _, _, _, _, _, _, _, _, _, _, _, _, _]) ag30 ty30 rfl (Bk.keep0 hb2 kk) rfl rfl) ?_
  refine pw_d [(5, _)] rfl rfl ⟨rfl, trivial⟩ rfl (d_call (vs := [_]) rfl (full_any _ _ _ _ _ ⟨hp.1, hp.2.1, hp.2.2.1, hp.2.2.2⟩ hz1 _)) ?_
  rintro _ w5 ⟨hh1, rfl, E1, k5⟩
  refine ⟨k5, ?_⟩
  replace hb1 := hb1.keep0 k5
  replace hb2 := hb2.keep0 k5
  replace hb3 := hb3.keep0 k5
  replace hB := hB.trans k5
  refine pw_d [(7, _)] rfl rfl ⟨rfl, trivial⟩ rfl (d_call (vs := [_]) rfl (full_any _ _ _ _ _ ⟨hq.1, hq.2.1, hq.2.2.1, hq.2.2.2⟩ hz2 _)) ?_
  rintro _ w6 ⟨hh2, rfl, E2, k6⟩
  refine ⟨k6, ?_⟩
  replace hb1 := hb1.keep0 k6
  replace hb2 := hb2.keep0 k6
  replace hb3 := hb3.keep0 k6
  replace hB := hB.trans k6
  refine pw_d [] rfl rfl trivial rfl (d_call (vs := []) rfl (pd_any _)) ?_
  rintro _ w7 ⟨hh3, rfl, E3, k7⟩
  refine ⟨k7, ?_⟩
  replace hb1 := hb1.keep0 k7
  replace hb2 := hb2.keep0 k7
  replace hb3 := hb3.keep0 k7
  replace hB := hB.trans k7
  refine pw_d [(6, _), (8, _), (9, _)] rfl rfl ⟨rfl, rfl, rfl, trivial⟩ rfl (d_call (vs := [_, _, _]) rfl (pplus_any _ _ _ _ _ _ _ _ _ _ _ _ ⟨E1.1, E1.2.1, E1.2.2.1, E1.2.2.2⟩ ⟨E2.1, E2.2.1, E2.2.2.1, E2.2.2.2⟩ E3 _)) ?_
  rintro _ w8 ⟨hh4, rfl, E4, k8⟩
  refine ⟨k8, ?_⟩
  replace hb1 := hb1.keep0 k8
  replace hb2 := hb2.keep0 k8
  replace hb3 := hb3.keep0 k8
  replace hB := hB.trans k8
  refine pw_nil ?_
  refine ow_d0 (d_sta ty30 rfl rfl rfl ivF_one hb3 rfl) ?_
  rintro _ w9 ⟨hb4, k9, z4⟩
  replace hb1 := hb1.keep k9 (fun hm => absurd (List.mem_singleton.1 hm) ne_b1_b3)
  replace hb2 := hb2.keep k9 (fun hm => absurd (List.mem_singleton.1 hm) ne_b2_b3)
  replace hB := hB.new k9 (fun x hx => .inl ((List.mem_singleton.1 hx) ▸ ge_b3))
  clear z4
  replace hb4 : Bk w9 b3 _ [.int .u64 (hh4 0), .int .u64 (hh4 1), .int .u64 (hh4 2), .int .u64 (hh4 3), .int .u64 (hh4 4), .int .u64 (hh4 5), .int .u64 (hh4 6), .int .u64 (hh4 7), .int .u64 (hh4 8), .int .u64 (hh4 9), .int .u64 (hh4 10), .int .u64 (hh4 11), .int .u64 (hh4 12), .int .u64 (hh4 13), .int .u64 (hh4 14), .int .u64 (hh4 15), .int .u64 (hh4 16), .int .u64 (hh4 17), .int .u64 (hh4 18), .int .u64 (hh4 19)] := hb4
  refine ow_nil ?_
  refine tw_keep [(4, _)] ⟨rfl, trivial⟩ ?_
  refine tw_retc hfin Try.results23 rfl (run_loadAgg ag30 ty30 (by assumption) rfl)  ?_
  exact ⟨hh4, rfl, ⟨E4.1, E4.2.1, E4.2.2.1, E4.2.2.2⟩, hB⟩

set_option maxRecDepth 100000 in
set_option maxHeartbeats 1000000 in
theorem Pneg_any (p : Nat → Int) (X1 Y1 Z1 T1 : Fp) (hp : PtEl p X1 Y1 Z1 T1) (hz1 : Z1 ≠ 0) (w : World) : Rets Try.prog 27 [.agg (iv .u64 20 p).toArray] w (fun v w' => ∃ r, v = .agg (iv .u64 20 r).toArray ∧ PtEl r (0 - X1) Y1 Z1 (0 - T1) ∧ Keep [] w w') := by
  have hB : Keep [] w w := Keep.refl _ _
  refine rets_of_tw Try.func27 rfl (by decide) Try.ntmps27 rfl (fun fin _ hfin => ?_)
  refine tw_seq ?_
  refine tw_region ?_
  refine ow_d (d_box (cs := [.int .u64 (p 0), .int .u64 (p 1), .int .u64 (p 2), .int .u64 (p 3), .int .u64 (p 4), .int .u64 (p 5), .int .u64 (p 6), .int .u64 (p 7), .int .u64 (p 8), .int .u64 (p 9), .int .u64 (p 10), .int .u64 (p 11), .int .u64 (p 12), .int .u64 (p 13), .int .u64 (p 14), .int .u64 (p 15), .int .u64 (p 16), .int .u64 (p 17), .int .u64 (p 18), .int .u64 (p 19)]) rfl rfl) rfl ?_
  rintro _ w1 ⟨b1, rfl, eb1, hb1, k1, z1⟩
  have ge_b1 : w.heap.size ≤ b1 := by have := hB.size; omega
  replace hB := hB.trans k1
  clear eb1 z1
  refine ow_d (d_alloc ty30) rfl ?_
  rintro _ w2 ⟨b2, rfl, eb2, hb2, k2, z2⟩
  have ge_b2 : w.heap.size ≤ b2 := by have := hB.size; omega
  have ne_b1_b2 : b1 ≠ b2 := by have := hb1.lt; omega
  replace hb1 := hb1.keep0 k2
  replace hB := hB.trans k2
  clear eb2 z2
  refine ow_nil ?_
  refine tw_keep [(1, _), (2, _)] ⟨rfl, rfl, trivial⟩ ?_
  refine tw_seq ?_
  refine tw_region ?_
  refine ow_g (g_ldab (cs' := [_, _, _, _, _, _, _, _, _, _, _, _, _, _, _, _, _, _, _, _]) ag30 ty30 rfl hb1 rfl rfl) rfl ?_
  refine ow_d (d_call (vs := [_]) rfl (full_any _ _ _ _ _ ⟨hp.1, hp.2.1, hp.2.2.1, hp.2.2.2⟩ hz1 _)) rfl ?_
  rintro _ w3 ⟨hh1, rfl, E1, k3⟩
  replace hb1 := hb1.keep0 k3
  replace hb2 := hb2.keep0 k3
  replace hB := hB.trans k3
  refine ow_d0 (d_sta ty30 rfl rfl rfl ivF_one hb1 rfl) ?_
  rintro _ w4 ⟨hb3, k4, z3⟩
  replace hb2 := hb2.keep k4 (fun hm => absurd (List.mem_singleton.1 hm) (Ne.symm ne_b1_b2))
  replace hB := hB.new k4 (fun x hx => .inl ((List.mem_singleton.1 hx) ▸ ge_b1))
  clear z3
  replace hb3 : Bk w4 b1 _ [.int .u64 (hh1 0), .int .u64 (hh1 1), .int .u64 (hh1 2), .int .u64 (hh1 3), .int .u64 (hh1 4), .int .u64 (hh1 5), .int .u64 (hh1 6), .int .u64 (hh1 7), .int .u64 (hh1 8), .int .u64 (hh1 9), .int .u64 (hh1 10), .int .u64 (hh1 11), .int .u64 (hh1 12), .int .u64 (hh1 13), .int .u64 (hh1 14), .int .u64 (hh1 15), .int .u64 (hh1 16), .int .u64 (hh1 17), .int .u64 (hh1 18), .int .u64 (hh1 19)] := hb3
  refine ow_nil ?_
  refine tw_keep [(1, _), (2, _)] ⟨rfl, rfl, trivial⟩ ?_
  refine tw_seq ?_
  refine tw_plan 13 [0, 1, 2, 4, 5, 6, 7, 8, 9, 10, 3, 11, 12] [3, 11] [] mixed [(1, _), (2, _)] ⟨rfl, rfl, trivial⟩ (by decide +kernel) rfl (fun w5 k5 => ?_)
  replace hb2 := hb2.keep0 k5
  replace hb3 := hb3.keep0 k5
  replace hB := hB.trans k5
  refine pw_g [] rfl rfl trivial rfl (fun W' kk => g_bld (idx := []) (xs := []) (vs := []) (css := []) (out := [_, _, _, _, _]) pl28 ty28 rfl rfl trivial rfl rfl) ?_
  refine pw_g [(1, _)] rfl rfl ⟨rfl, trivial⟩ rfl (fun W' kk => g_fa Try.underlying30 rfl ty28 (by decide) rfl) ?_
  refine pw_g [(6, _)] rfl rfl ⟨rfl, trivial⟩ rfl (fun W' kk => g_ldab (cs' := [_, _, _, _, _]) ag28 ty28 rfl (Bk.keep0 hb3 kk) rfl rfl) ?_
  refine pw_g [(1, _)] rfl rfl ⟨rfl, trivial⟩ rfl (fun W' kk => g_fa Try.underlying30 rfl ty28 (by decide) rfl) ?_
  refine pw_g [(9, _)] rfl rfl ⟨rfl, trivial⟩ rfl (fun W' kk => g_ldab (cs' := [_, _, _, _, _]) ag28 ty28 rfl (Bk.keep0 hb3 kk) rfl rfl) ?_
  refine pw_g [(1, _)] rfl rfl ⟨rfl, trivial⟩ rfl (fun W' kk => g_fa Try.underlying30 rfl ty28 (by decide) rfl) ?_
  refine pw_g [(11, _)] rfl rfl ⟨rfl, trivial⟩ rfl (fun W' kk => g_ldab (cs' := [_, _, _, _, _]) ag28 ty28 rfl (Bk.keep0 hb3 kk) rfl rfl) ?_
  refine pw_g [] rfl rfl trivial rfl (fun W' kk => g_bld (idx := []) (xs := []) (vs := []) (css := []) (out := [_, _, _, _, _]) pl28 ty28 rfl rfl trivial rfl rfl) ?_
  refine pw_g [(1, _)] rfl rfl ⟨rfl, trivial⟩ rfl (fun W' kk => g_fa Try.underlying30 rfl ty28 (by decide) rfl) ?_
  refine pw_g [(14, _)] rfl rfl ⟨rfl, trivial⟩ rfl (fun W' kk => g_ldab (cs' := [_, _, _, _, _]) ag28 ty28 rfl (Bk.keep0 hb3 kk) rfl rfl) ?_
  refine pw_d [(5, _), (7, _)] rfl rfl ⟨rfl, rfl, trivial⟩ rfl (d_call (vs := [_, _]) rfl (nminus_any _ _ _ _ el_zero E1.1 _)) ?_
  rintro _ w6 ⟨hh2, rfl, E2, k6⟩
  refine ⟨k6, ?_⟩
  replace hb2 := hb2.keep0 k6
  replace hb3 := hb3.keep0 k6
  replace hB := hB.trans k6
  refine pw_d [(13, _), (15, _)] rfl rfl ⟨rfl, rfl, trivial⟩ rfl (d_call (vs := [_, _]) rfl (nminus_any _ _ _ _ el_zero E1.2.2.2 _)) ?_
  rintro _ w7 ⟨hh3, rfl, E3, k7⟩
  refine ⟨k7, ?_⟩
  replace hb2 := hb2.keep0 k7
  replace hb3 := hb3.keep0 k7
  replace hB := hB.trans k7
  refine pw_g [(8, _), (10, _), (12, _), (16, _)] rfl rfl ⟨rfl, rfl, rfl, rfl, trivial⟩ rfl (fun W' kk => g_bld (idx := [0, 1, 2, 3]) (xs := [.tmp 8, .tmp 10, .tmp 12, .tmp 16]) (vs := [_, _, _, _]) (css := [[_, _, _, _, _], [_, _, _, _, _], [_, _, _, _, _], [_, _, _, _, _]]) (out := [_, _, _, _, _, _, _, _, _, _, _, _, _, _, _, _, _, _, _, _]) pl30 ty30 rfl rfl ⟨rfl, rfl, rfl, rfl, trivial⟩ rfl rfl) ?_
  refine pw_nil ?_
  refine ow_d0 (d_sta ty30 rfl rfl rfl (by simp only [List.forall_mem_cons]; refine ⟨rfl, rfl, rfl, rfl, rfl, rfl, rfl, rfl, rfl, rfl, rfl, rfl, rfl, rfl, rfl, rfl, rfl, rfl, rfl, rfl, fun v hv => by cases hv⟩) hb2 rfl) ?_
  rintro _ w8 ⟨hb4, k8, z4⟩
  replace hb3 := hb3.keep k8 (fun hm => absurd (List.mem_singleton.1 hm) ne_b1_b2)
  replace hB := hB.new k8 (fun x hx => .inl ((List.mem_singleton.1 hx) ▸ ge_b2))
  clear z4
  replace hb4 : Bk w8 b2 _ [.int .u64 (hh2 0), .int .u64 (hh2 1), .int .u64 (hh2 2), .int .u64 (hh2 3), .int .u64 (hh2 4), .int .u64 (hh1 5), .int .u64 (hh1 6), .int .u64 (hh1 7), .int .u64 (hh1 8), .int .u64 (hh1 9), .int .u64 (hh1 10), .int .u64 (hh1 11), .int .u64 (hh1 12), .int .u64 (hh1 13), .int .u64 (hh1 14), .int .u64 (hh3 0), .int .u64 (hh3 1), .int .u64 (hh3 2), .int .u64 (hh3 3), .int .u64 (hh3 4)] := hb4
  refine ow_nil ?_
  refine tw_keep [(2, _)] ⟨rfl, trivial⟩ ?_
  refine tw_retc hfin Try.results27 rfl (run_loadAgg ag30 ty30 (by assumption) rfl)  ?_
  exact ⟨(vecN [(hh2 0), (hh2 1), (hh2 2), (hh2 3), (hh2 4), (hh1 5), (hh1 6), (hh1 7), (hh1 8), (hh1 9), (hh1 10), (hh1 11), (hh1 12), (hh1 13), (hh1 14), (hh3 0), (hh3 1), (hh3 2), (hh3 3), (hh3 4)]), rfl, ⟨E2, E1.2.1, E1.2.2.1, E3⟩, hB⟩

set_option maxRecDepth 100000 in
set_option maxHeartbeats 1000000 in
theorem Pzero_any (w : World) : Rets Try.prog 15 [] w (fun v w' => ∃ r, v = .agg (iv .u64 20 r).toArray ∧ PtEl r 0 (fp 1) (fp 1) (0 * fp 1) ∧ Keep [] w w') := by
  have hB : Keep [] w w := Keep.refl _ _
  refine rets_of_tw Try.func15 rfl (by decide) Try.ntmps15 rfl (fun fin _ hfin => ?_)
  refine tw_seq ?_
  refine tw_region ?_
  refine ow_d (d_alloc ty30) rfl ?_
  rintro _ w1 ⟨b1, rfl, eb1, hb1, k1, z1⟩
  have ge_b1 : w.heap.size ≤ b1 := by have := hB.size; omega
  replace hB := hB.trans k1
  clear eb1 z1
  refine ow_nil ?_
  refine tw_keep [(0, _)] ⟨rfl, trivial⟩ ?_
  refine tw_seq ?_
  refine tw_region ?_
  refine ow_g (g_bld (idx := []) (xs := []) (vs := []) (css := []) (out := [_, _, _, _, _, _, _, _, _, _, _, _, _, _, _, _, _, _, _, _]) pl30 ty30 rfl rfl trivial rfl rfl) rfl ?_
  refine ow_d (d_call (vs := [_]) rfl (full_zero _)) rfl ?_
  rintro _ w2 ⟨hh1, rfl, E1, k2⟩
  replace hb1 := hb1.keep0 k2
  replace hB := hB.trans k2
  refine ow_d0 (d_sta ty30 rfl rfl rfl ivF_one hb1 rfl) ?_
  rintro _ w3 ⟨hb2, k3, z2⟩
  replace hB := hB.new k3 (fun x hx => .inl ((List.mem_singleton.1 hx) ▸ ge_b1))
  clear z2
  replace hb2 : Bk w3 b1 _ [.int .u64 (hh1 0), .int .u64 (hh1 1), .int .u64 (hh1 2), .int .u64 (hh1 3), .int .u64 (hh1 4), .int .u64 (hh1 5), .int .u64 (hh1 6), .int .u64 (hh1 7), .int .u64 (hh1 8), .int .u64 (hh1 9), .int .u64 (hh1 10), .int .u64 (hh1 11), .int .u64 (hh1 12), .int .u64 (hh1 13), .int .u64 (hh1 14), .int .u64 (hh1 15), .int .u64 (hh1 16), .int .u64 (hh1 17), .int .u64 (hh1 18), .int .u64 (hh1 19)] := hb2
  refine ow_nil ?_
  refine tw_keep [(0, _)] ⟨rfl, trivial⟩ ?_
  refine tw_retc hfin Try.results15 rfl (run_loadAgg ag30 ty30 (by assumption) rfl)  ?_
  exact ⟨hh1, rfl, ⟨E1.1, E1.2.1, E1.2.2.1, E1.2.2.2⟩, hB⟩

end Go.Proofs.Ytkngeapegpehpaa.W
